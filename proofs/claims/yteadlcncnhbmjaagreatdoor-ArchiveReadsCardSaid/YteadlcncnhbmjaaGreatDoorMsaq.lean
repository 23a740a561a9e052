/- The texts Asm, Ank, Ax2, As1, As2 of this proof, one behind the other. -/
import Derived.Laws.BitsAllLaws
import Derived.Laws.BitsLemmas
import Derived.RowKit
import Derived.Test.YteadlcncnhbmjaaGreatDoorMsao
import Derived.Test.YteadlcncnhbmjaaGreatDoorMsad
import Derived.Test.YteadlcncnhbmjaaGreatDoorMsap
set_option linter.unusedSimpArgs false
set_option maxHeartbeats 16000000
set_option maxRecDepth 100000
set_option linter.unusedVariables false
namespace Go.Proofs.YteadlcncnhbmjaaGreatDoor
open Go.RowKit
namespace Sm
def M62 : Nat := 4611686018427387904
def mixed (v : Nat) (c : UInt8) : Nat := v ^^^ c.toNat
def fstep (v : Nat) (c : UInt8) : Nat := (mixed v c * 1099511628211) % M62
def fold (v : Nat) (bs : List UInt8) : Nat := bs.foldl fstep v
def cut (h : Int) : Nat := (h % 4611686018427387904).toNat
theorem cut_lt (h : Int) : cut h < 4611686018427387904 := by unfold cut; omega
theorem PQ (v : Nat) (c : UInt8) : fstep v c < 4611686018427387904 := by unfold fstep M62; omega
theorem fold_lt (bs : List UInt8) : ∀ v, v < 4611686018427387904 → fold v bs < 4611686018427387904 := by
 induction bs with
 | nil => intro v h; exact h
 | cons c bs ih => intro v _; exact ih _ (PQ v c)
theorem PG {α β : Type} (f : α → β → α) (v : α) (a : List β) (c : β) : (a ++ [c]).foldl f v = f (a.foldl f v) c := by simp
theorem fold_snoc (v : Nat) (a : List UInt8) (c : UInt8) : fold v (a ++ [c]) = fstep (fold v a) c := PG fstep v a c
theorem RT (n : Nat) : n &&& 4611686018427387903 = n % 4611686018427387904 := by
 have h := Nat.and_two_pow_sub_one_eq_mod n 62;have e : 2 ^ 62 - 1 = 4611686018427387903 := by decide
 rw [e] at h;omega
theorem QX (n m : Nat) (hm : m = 4611686018427387903) (hn : n < 18446744073709551616) : bits .and .u64 (n : Int) (m : Int) = ((n &&& m : Nat) : Int) := u64_and_nat n m hn (by omega)
theorem Lb (n : Nat) (hn : n < 18446744073709551616) : bits .and .u64 (n : Int) 4611686018427387903 = ((n % M62 : Nat) : Int) := by
 obtain ⟨m, hm⟩ : ∃ m : Nat, m = 4611686018427387903 := ⟨_, rfl⟩;have e0 : (4611686018427387903 : Int) = (m : Int) := by omega
 rw [e0, QX n m hm hn, hm, RT];rfl
theorem start_and (h : Int) : bits .and .u64 (IntKind.u64.wrap h) 4611686018427387903 = (cut h : Int) := by
 rw [IntKind.wrap_u64];obtain ⟨n, hn⟩ := Int.eq_ofNat_of_zero_le (show 0 ≤ h % 18446744073709551616 by omega);rw [hn, Lb n (by omega)];unfold cut M62;omega
theorem start_rem (h : Int) : (IntKind.u64.wrap h).tmod 4611686018427387904 = (cut h : Int) := by
 rw [IntKind.wrap_u64, Int.tmod_eq_emod_of_nonneg (by omega)];unfold cut;omega
theorem xor_mix (v : Nat) (c : UInt8) (hv : v < 4611686018427387904) : bits .xor .u64 (v : Int) (c.toNat : Int) = (mixed v c : Int) :=
 u64_xor_nat v c.toNat (by omega) (by have := c.toNat_lt; omega)
theorem KX (m : Nat) : IntKind.u64.wrap ((m : Int) * 1099511628211) = ((m * 1099511628211 % 18446744073709551616 : Nat) : Int) := by
 rw [IntKind.wrap_u64]; omega
theorem step_and (v : Nat) (c : UInt8) : bits .and .u64 (IntKind.u64.wrap ((mixed v c : Int) * 1099511628211)) 4611686018427387903 = (fstep v c : Int) := by
 rw [KX, Lb _ (by omega)];unfold fstep M62;omega
theorem step_rem (v : Nat) (c : UInt8) : (IntKind.u64.wrap ((mixed v c : Int) * 1099511628211)).tmod 4611686018427387904 = (fstep v c : Int) := by
 rw [KX, Int.tmod_eq_emod_of_nonneg (by omega)];unfold fstep M62;omega
theorem back (n : Nat) (hn : n < 4611686018427387904) : wrap64 (n : Int) = (n : Int) := by
 unfold wrap64; omega
end Sm
end Go.Proofs.YteadlcncnhbmjaaGreatDoor
namespace Ar
open Go.Lib
def evW : Str := [101, 118, 101, 110, 116, 32]
end Ar
namespace Go.Proofs.YteadlcncnhbmjaaGreatDoor
open Go.RowKit Go.Lib
def sumB (bs : List UInt8) : Nat := Sm.fold (Sm.cut 860922984064492325) bs
theorem MF (bs : List UInt8) : sumB bs < 4611686018427387904 := Sm.fold_lt bs _ (Sm.cut_lt _)
def sumL (t : Nat) (l : List UInt8) : Nat := if hasPrefix l Ar.evW then (t + sumB (l.drop 6)) % 4611686018427387904 else t
def sums (L : List (List UInt8)) : Nat := L.foldl sumL 0
theorem QT (t : Nat) (l : List UInt8) (h : t < 4611686018427387904) : sumL t l < 4611686018427387904 := by
 unfold sumL;split
 ·omega
 ·exact h
theorem KZ (L : List (List UInt8)) : ∀ t, t < 4611686018427387904 → L.foldl sumL t < 4611686018427387904 := by
 induction L with
 | nil => intro t h; exact h
 | cons l L ih => intro t h; exact ih _ (QT t l h)
theorem Li (c : UInt8) : IntKind.u64.wrap (c.toNat : Int) = (c.toNat : Int) := by rw [IntKind.wrap_u64]; have := c.toNat_lt; omega
theorem Rd.byte_at {w : World} {A : Option Addr} {bs : List UInt8} (h : Rd w A bs.length (Bu bs)) {k : Nat} (hk : k < bs.length) : ∃ b off c, A = some ⟨b, off, none⟩ ∧ bs[k]? = some c ∧ w.cell? ⟨b, off + k, none⟩ = some (.int .u8 (c.toNat : Int)) := by
 obtain ⟨b, off, e, h2⟩ := h.2 k (.int .u8 (bs[k].toNat : Int)) (by unfold Bu; rw [List.getElem?_map, List.getElem?_eq_getElem hk]; rfl);exact ⟨b, off, bs[k], e, List.getElem?_eq_getElem hk, h2⟩
theorem Pw (h : Int) (A : Option Addr) (cap : Nat) (bs : List UInt8) (w : World) (hr : Rd w A bs.length (Bu bs)) (hlen : bs.length ≤ 1000000) :
  Calls Tryz.prog 154 #[.int .i64 h, .slice A bs.length cap] w fun e w' => e = .returned (.int .i64 (Sm.fold (Sm.cut h) bs)) ∧ w = w' := by
 have HR := hid hr;have hst := Sm.start_and h;have hlt0 := Sm.cut_lt h;clear hr;go_enter Tryz.func154, Tryz.ntmps154;go_wp2_with fail;clear hst
 go_loop [5, 13] (fun u i => ∃ k : Nat, k ≤ bs.length ∧ i = .int .i64 k ∧ u = .int .u64 (Sm.fold (Sm.cut h) (bs.take k))) (fun _ i => bs.length - (RowKit.intOf i).toNat)
 case atStart => exact ⟨0, Nat.zero_le _, rfl, rfl⟩
 case round =>
  obtain ⟨k, hk, rfl, rfl⟩ := hrel;by_cases hlt : k < bs.length
  ·obtain ⟨b, off, c, rfl, hbc, hcell⟩ := HR.out.byte_at hlt;have hv := Sm.fold_lt (bs.take k) _ hlt0;have hx := Sm.xor_mix _ c hv;have hw := Li c;have hs := Sm.step_and (Sm.fold (Sm.cut h) (bs.take k)) c
   have HS : Hid (Sm.fold (Sm.cut h) (bs.take (k + 1)) = Sm.fstep (Sm.fold (Sm.cut h) (bs.take k)) c) :=
    hid (by rw [BF hbc, Sm.fold_snoc])
   clear hlt0 hbc;go_wp2_with fail
   go_round
   case rel => exact ⟨k + 1, by omega, by go_num, by rw [HS.out]⟩
   case measure => simp [RowKit.intOf]; omega
  ·have hb := Sm.fold_lt bs _ hlt0;have HB := hid (Sm.back _ hb);obtain rfl : k = bs.length := by omega
   clear hlt0 hb;go_wp2_with fail;go_ret;exact ⟨Cq HB.out, rfl⟩
theorem N7 (h : Int) (A : Option Addr) (cap : Nat) (bs : List UInt8) (w : World) (hr : Rd w A bs.length (Bu bs)) (hlen : bs.length ≤ 1000000) :
  Calls Tryz.prog 156 #[.int .i64 h, .slice A bs.length cap] w fun e w' => e = .returned (.int .i64 (Sm.fold (Sm.cut h) bs)) ∧ w = w' := by
 have HR := hid hr;have hst := Sm.start_rem h;have hlt0 := Sm.cut_lt h;clear hr;go_enter Tryz.func156, Tryz.ntmps156;go_wp2_with fail;clear hst
 go_loop [5, 6] (fun u i => ∃ k : Nat, k ≤ bs.length ∧ i = .int .i64 k ∧ u = .int .u64 (Sm.fold (Sm.cut h) (bs.take k))) (fun _ i => bs.length - (RowKit.intOf i).toNat)
 case atStart => exact ⟨0, Nat.zero_le _, rfl, rfl⟩
 case round =>
  obtain ⟨k, hk, rfl, rfl⟩ := hrel;by_cases hlt : k < bs.length
  ·obtain ⟨b, off, c, rfl, hbc, hcell⟩ := HR.out.byte_at hlt;have hv := Sm.fold_lt (bs.take k) _ hlt0;have hx := Sm.xor_mix _ c hv;have hw := Li c;have hs := Sm.step_rem (Sm.fold (Sm.cut h) (bs.take k)) c
   have HS : Hid (Sm.fold (Sm.cut h) (bs.take (k + 1)) = Sm.fstep (Sm.fold (Sm.cut h) (bs.take k)) c) :=
    hid (by rw [BF hbc, Sm.fold_snoc])
   clear hlt0 hbc;go_wp2_with fail
   go_round
   case rel => exact ⟨k + 1, by omega, by go_num, by rw [HS.out]⟩
   case measure => simp [RowKit.intOf]; omega
  ·have hb := Sm.fold_lt bs _ hlt0;have HB := hid (Sm.back _ hb);obtain rfl : k = bs.length := by omega
   clear hlt0 hb;go_wp2_with fail;go_ret;exact ⟨Cq HB.out, rfl⟩
theorem N6 (w : World) : Calls Tryz.prog 155 #[] w fun e w' => e = .returned (.int .i64 860922984064492325) ∧ w = w' := by
 go_enter Tryz.func155, Tryz.ntmps155;go_wp2_with fail;go_ret;exact ⟨rfl, rfl⟩
theorem Mt (w : World) : Calls Tryz.prog 157 #[] w fun e w' => e = .returned (.int .i64 860922984064492325) ∧ w = w' := by
 go_enter Tryz.func157, Tryz.ntmps157;go_wp2_with fail;go_ret;exact ⟨rfl, rfl⟩
theorem PT (A : Option Addr) (cap : Nat) (bs : List UInt8) (w : World) (hr : Rd w A bs.length (Bu bs)) (hlen : bs.length ≤ 1000000) :
  Calls Tryz.prog 98 #[.slice A bs.length cap] w fun e w' => e = .returned (.int .i64 (sumB bs)) ∧ w = w' := by
 have HR := hid hr;clear hr;go_enter Tryz.func98, Tryz.ntmps98;go_wp2_with fail;refine (N6 _).mono ?_;rintro e w' ⟨rfl, rfl⟩;go_wp2_with fail;refine (Pw _ _ _ _ _ HR.out hlen).mono ?_;rintro e w' ⟨rfl, rfl⟩;go_wp2_with fail;go_ret;exact ⟨rfl, rfl⟩
theorem Ns (A : Option Addr) (cap : Nat) (bs : List UInt8) (w : World) (hr : Rd w A bs.length (Bu bs)) (hlen : bs.length ≤ 1000000) :
  Calls Tryz.prog 100 #[.slice A bs.length cap] w fun e w' => e = .returned (.int .i64 (sumB bs)) ∧ w = w' := by
 have HR := hid hr;clear hr;go_enter Tryz.func100, Tryz.ntmps100;go_wp2_with fail;refine (Mt _).mono ?_;rintro e w' ⟨rfl, rfl⟩;go_wp2_with fail;refine (N7 _ _ _ _ _ HR.out hlen).mono ?_;rintro e w' ⟨rfl, rfl⟩;go_wp2_with fail;go_ret;exact ⟨rfl, rfl⟩
theorem Rd.bytes_new (w : World) (s : ByteArray) (cap : Nat) (fr : Nat × Nat) : Rd (w.alloc (.cells (bytesRow s cap) 5 fr)) (some ⟨w.heap.size, 0, none⟩) s.data.toList.length (Bu s.data.toList) := by
 refine ⟨List.length_map _, fun j v hj => ⟨w.heap.size, 0, rfl, ?_⟩⟩;unfold Bu at hj;rw [List.getElem?_map] at hj
 cases hs : s.data.toList[j]? with
 | none => rw [hs] at hj; cases hj
 | some c =>
  rw [hs] at hj;injection hj with hj;have hlt := (List.getElem?_eq_some_iff.1 hs).1;have hc : (bytesRow s cap)[j]? = some v := by
   unfold bytesRow;rw [Array.getElem?_append_left (by rw [Array.size_map]; simpa using hlt), Array.getElem?_map, ← Array.getElem?_toList, hs, ← hj];rfl
  rw [Nat.zero_add];rw [← hc];exact cell_of_row _ _ _ _ _ _ (heap_alloc_new w _)
theorem Pj (n : Int) : bits .and .i64 n 4611686018427387903 = n % 4611686018427387904 := by
 have hm : (BitVec.ofInt 64 4611686018427387903).toNat = 2 ^ 62 - 1 := by decide
 have key : (BitVec.ofInt 64 n &&& BitVec.ofInt 64 4611686018427387903).toNat = (n % ((2 ^ 64 : Nat) : Int)).toNat % 2 ^ 62 := by
  rw [BitVec.toNat_and, BitVec.toNat_ofInt, hm, Nat.and_two_pow_sub_one_eq_mod]
 show IntKind.i64.wrap ((BitVec.ofInt 64 n &&& BitVec.ofInt 64 4611686018427387903).toNat : Nat) = n % 4611686018427387904;rw [key, IntKind.wrap_i64];omega
theorem JG : ∀ L : List (List UInt8), (∀ l ∈ L, (10 : UInt8) ∉ l) → Ar.lines (L.flatMap (fun l => l ++ [10])) = L ++ [[]]
 | [], _ => rfl
 | l :: L, h => by
  rw [List.flatMap_cons, List.append_assoc];show Ar.lines (l ++ 10 :: L.flatMap fun l => l ++ [10]) = _;rw [Ar.EL _ _ (h l (List.mem_cons_self)), JG L (fun m hm => h m (List.mem_cons_of_mem _ hm))];rfl
end Go.Proofs.YteadlcncnhbmjaaGreatDoor
namespace Ar
open Go.Lib
structure Rm.Ok (r : Rm) : Prop where
 next : inInt r.next
 events : ∀ e ∈ r.events, Fits NK e
 rows : ∀ x ∈ r.rows, inInt x.1 ∧ inInt x.2.1 ∧ inInt x.2.2.1
 waiting : ∀ e ∈ r.waiting, Fits NK e
 heads : ∀ n ∈ r.heads, inInt n
 state : ∀ x ∈ r.state, inInt x.1 ∧ inInt x.2.2
 receipts : ∀ x ∈ r.receipts, inInt x.2.1 ∧ inInt x.2.2.1 ∧ inInt x.2.2.2
 typing : ∀ x ∈ r.typing, inInt x.2
def NL (s : Str) : Prop := (10 : UInt8) ∉ s
theorem NL.app {a b : Str} (ha : NL a) (hb : NL b) : NL (a ++ b) := fun h => (List.mem_append.1 h).elim ha hb
theorem NL.cons {c : UInt8} {a : Str} (hc : c ≠ 10) (ha : NL a) : NL (c :: a) := fun h => (List.mem_cons.1 h).elim (fun e => hc e.symm) ha
theorem NL.nil : NL [] := fun h => by cases h
theorem DO (s : Str) : NL (quote s) := fun h => by have := Ln s 10 h; have e : (10 : UInt8).toNat = 10 := rfl; omega
theorem Cr (n : Int) : NL (itoa n) := fun h => absurd (Ga n 10 h) (by decide)
theorem Kh {sep : Str} (hs : NL sep) : ∀ l : List Str, (∀ x ∈ l, NL x) → NL (join sep l)
 | [], _ => NL.nil
 | [x], h => h x (by simp)
 | x :: y :: r, h => (((h x (by simp)).app hs).app (Kh hs (y :: r) (fun z hz => h z (List.mem_cons_of_mem _ hz))))
theorem Fn {α : Type} (tx : α → Str) (l : List α) (h : ∀ x, NL (tx x)) : NL (join [44] (l.map tx)) :=
 Kh (NL.cons (by decide) NL.nil) _ (fun y hy => by obtain ⟨x, _, rfl⟩ := List.mem_map.1 hy; exact h x)
theorem QA (p : Str × Int) : NL (usrT p) := (DO p.1).app (NL.cons (by decide) (Cr p.2))
theorem RA (p : Int × Int) : NL (kndT p) := (Cr p.1).app (NL.cons (by decide) (Cr p.2))
theorem Q9 (v : FV) : NL v.text := by
 cases v with
 | num n => show NL (if n = 0 then [] else itoa n); split; exact NL.nil; exact Cr n
 | txt s => show NL (if s = [] then [] else quote s); split; exact NL.nil; exact DO s
 | flg b => exact NL.nil
 | nums l => exact Fn itoa l Cr
 | txts l => exact Fn quote l DO
 | usrs l => exact Fn usrT l QA
 | knds l => exact Fn kndT l RA
theorem NK_nl : ∀ p ∈ NK, (10 : UInt8) ∉ p.1 := by decide
theorem Ra (nm : Str) (v : FV) (h : NL nm) : NL (item nm v) := by
 cases hf : isFlg v.kind with
 | true =>
  cases v with
  | flg b => show NL (if b then nm else []); split; exact h; exact NL.nil
  | _ => cases hf
 | false =>
  rw [CA nm hf];split
  ·exact NL.nil
  ·exact h.app (NL.cons (by decide) (Q9 v))
theorem MV (e : List FV) : NL (line e) := by
 refine Kh (NL.cons (by decide) NL.nil) _ fun x hx => ?_
 have hm := (List.mem_filter.1 hx).1;obtain ⟨i, hi⟩ := List.mem_iff_getElem?.1 hm;rw [List.getElem?_zipWith] at hi;split at hi
 ·rename_i a b ha hb;injection hi with hi;rw [← hi];exact Ra _ _ (NK_nl a (List.mem_of_getElem? ha))
 ·cases hi
theorem Q5 (id : Str) (n : Int) : NL (As id n) := by
 unfold As;refine NL.app (NL.app (by unfold NL; decide) (DO id)) ?_;split
 ·exact NL.nil
 ·exact NL.app (by unfold NL; decide) (Cr n)
theorem KG {w s : Str} (hw : NL w) (hs : NL s) : NL (after w s) := by
 unfold after;split
 ·exact hw
 ·exact hw.app (NL.cons (by decide) hs)
theorem R0 (x : Int × Int × Int × Bool) : NL (AK x) := by
 unfold AK;refine NL.app (NL.app (NL.app (NL.app (by unfold NL; decide) (Cr _)) (NL.cons (by decide) (Cr _))) (NL.cons (by decide) (Cr _))) ?_;split
 ·unfold NL; decide
 ·exact NL.nil
theorem Ps (l : List Int) : NL (AB l) := NL.app (by unfold NL; decide) (Fn itoa l Cr)
theorem P5 (x : Int × Str × Int) : NL (Aw x) := NL.app (NL.app (NL.app (by unfold NL; decide) (Cr _)) (NL.cons (by decide) (DO _))) (NL.cons (by decide) (Cr _))
theorem LB (x : Str × Int × Int × Int) : NL (Am x) := NL.app (NL.app (NL.app (NL.app (by unfold NL; decide) (DO _)) (NL.cons (by decide) (Cr _))) (NL.cons (by decide) (Cr _))) (NL.cons (by decide) (Cr _))
theorem Om (x : Str × Int) : NL (Ap x) := NL.app (NL.app (by unfold NL; decide) (DO _)) (NL.cons (by decide) (Cr _))
theorem nl_rm (r : Rm) : ∀ l ∈ AN r, NL l := by
 intro l hl;unfold AN at hl;simp only [List.mem_append, List.mem_singleton, List.mem_map] at hl;rcases hl with ((((((rfl | ⟨e, _, rfl⟩) | ⟨x, _, rfl⟩) | ⟨e, _, rfl⟩) | hl) | ⟨x, _, rfl⟩) | ⟨x, _, rfl⟩) | ⟨x, _, rfl⟩
 ·exact Q5 _ _
 ·exact KG (by unfold NL; decide) (MV e)
 ·exact R0 x
 ·exact KG (by unfold NL; decide) (MV e)
 ·split at hl
  ·cases hl
  ·rw [List.mem_singleton.1 hl]; exact Ps _
 ·exact P5 x
 ·exact LB x
 ·exact Om x
theorem Bh (s : Str) (r : Rm) : AG s r =
  if (cut s [32]).1 = evN then retK r 2 ((By s (cut s [32]).1).map fun e => { r with events := r.events ++ [e] })
  else if (cut s [32]).1 = waitN then retK r 4 ((By s (cut s [32]).1).map fun e => { r with waiting := r.waiting ++ [e] })
  else if (cut s [32]).1 = [114, 111, 119] then retK r 3 (rdRow s r)
  else if (cut s [32]).1 = [104, 101, 97, 100, 115] then retK r 5 (C8 s r)
  else if (cut s [32]).1 = [101, 110, 116, 114, 121] then retK r 6 (Da s r)
  else if (cut s [32]).1 = [114, 101, 99, 101, 105, 112, 116] then retK r 7 (Cs s r)
  else if (cut s [32]).1 = [116, 121, 112, 105, 110, 103] then retK r 8 (CL s r)
  else (0, r) := by unfold AG; rfl
theorem Ge (t : Str) : Stop numch ([32] ++ t) := by intro c r h; injection h with h1 h2; subst h1; decide
theorem GJ : Stop numch [] := fun c r h => by cases h
theorem Gx (n : Int) (b : Bool) (h : inInt n) : rnum (itoa n, b) = (n, ([], b)) := by
 have := CP n [] b h GJ;rwa [List.append_nil] at this
theorem Jz (id : Str) (next : Int) (r : Rm) (hn : inInt next) (h0 : r.next = 0) : Cb (As id next) r = some { r with id := id, next := next } := by
 by_cases hz : next = 0
 ·have e : As id next = headW ++ (quote id ++ []) := by unfold As; rw [if_pos hz]; simp
  have h1 : rtext (eat headW (As id next, false)) = (id, ([], false)) := by rw [e, DN, Dn]
  unfold Cb;rw [h1];have h2 : has nextW ([], false) = (false, ([], false)) := rfl;simp only [h2];simp [h0, hz]
 ·have e : As id next = headW ++ (quote id ++ (nextW ++ itoa next)) := by unfold As; rw [if_neg hz]; simp
  have h1 : rtext (eat headW (As id next, false)) = (id, (nextW ++ itoa next, false)) := by rw [e, DN, Dn]
  unfold Cb;rw [h1];simp only [OZ, Gx next false hn];simp
theorem Pd (x : Int × Int × Int × Bool) (r : Rm) (h : inInt x.1 ∧ inInt x.2.1 ∧ inInt x.2.2.1) : rdRow (AK x) r = some { r with rows := r.rows ++ [x] } := by
 obtain ⟨a, b, c, d⟩ := x;obtain ⟨h1, h2, h3⟩ := h;have e : AK (a, b, c, d) = rowW ++ (itoa a ++ ([32] ++ (itoa b ++ ([32] ++ (itoa c ++ if d then goneW else []))))) := by simp [AK]
 have hs : Stop numch (if d then goneW else []) := by cases d; exact GJ; exact Ge _
 have hg : has goneW (if d then goneW else [], false) = (d, ([], false)) := by cases d <;> rfl
 unfold rdRow;simp only [e, DN, CP a _ false h1 (Ge _), CP b _ false h2 (Ge _), CP c _ false h3 hs, hg];simp
theorem L4 (l : List Int) (r : Rm) (hl : l ≠ []) (h : ∀ n ∈ l, inInt n) : C8 (AB l) r = some { r with heads := l } := by
 have hlen := Ci itoa DX l;have h1 : Au rnum ((join [44] (l.map itoa)).length + 1) (join [44] (l.map itoa), false) = (l, ([], false)) := by
  have := Ep rnum itoa [] (fun c r h => by cases h) l ((join [44] (l.map itoa)).length + 1) hl (by omega) (fun x hx u hu => CP x u false (h x hx) hu);rwa [List.append_nil] at this
 unfold C8;simp only [show AB l = EI ++ join [44] (l.map itoa) from rfl, DN, h1];simp
theorem LL (x : Int × Str × Int) (r : Rm) (h : inInt x.1 ∧ inInt x.2.2) : Da (Aw x) r = some { r with state := r.state ++ [x] } := by
 obtain ⟨a, b, c⟩ := x;obtain ⟨h1, h2⟩ := h;have e : Aw (a, b, c) = DG ++ (itoa a ++ ([32] ++ (quote b ++ ([32] ++ itoa c)))) := by simp [Aw]
 unfold Da;simp only [e, DN, CP a _ false h1 (Ge _), Dn, Gx c false h2];simp
theorem JX (x : Str × Int × Int × Int) (r : Rm) (h : inInt x.2.1 ∧ inInt x.2.2.1 ∧ inInt x.2.2.2) : Cs (Am x) r = some { r with receipts := r.receipts ++ [x] } := by
 obtain ⟨a, b, c, d⟩ := x;obtain ⟨h1, h2, h3⟩ := h;have e : Am (a, b, c, d) = CE ++ (quote a ++ ([32] ++ (itoa b ++ ([32] ++ (itoa c ++ ([32] ++ itoa d)))))) := by simp [Am]
 unfold Cs;simp only [e, DN, Dn, CP b _ false h1 (Ge _), CP c _ false h2 (Ge _), Gx d false h3];simp
theorem Lt (x : Str × Int) (r : Rm) (h : inInt x.2) : CL (Ap x) r = some { r with typing := r.typing ++ [x] } := by
 obtain ⟨a, b⟩ := x;have e : Ap (a, b) = CW ++ (quote a ++ ([32] ++ itoa b)) := by simp [Ap]
 unfold CL;simp only [e, DN, Dn, Gx b false h];simp
theorem IO (w : Str) (e : List FV) (h : Fits NK e) : By (after w (line e)) w = some e := by
 have hp : hasPrefix (after w (line e)) w = true := by
  unfold after;split
  ·have := BX w [];rwa [List.append_nil] at this
  ·exact BX w _
 have ht : trimPrefix ((after w (line e)).drop w.length) [32] = line e := by
  unfold after;split
  ·rename_i h0;rw [List.drop_length, h0];rfl
  ·rw [List.drop_left];rfl
 unfold By;rw [if_pos hp, ht, C0 e h];simp
theorem Dq (w t : Str) (h : (32 : UInt8) ∉ w) : (cut (w ++ 32 :: t) [32]).1 = w := by rw [O9 h]
theorem Jv (w s : Str) (h : (32 : UInt8) ∉ w) : (cut (after w s) [32]).1 = w := by
 unfold after;split
 ·rw [Gg h]
 ·exact Dq w s h
def upE (r : Rm) (e : List FV) : Rm := { r with events := r.events ++ [e] }
def upR (r : Rm) (x : Int × Int × Int × Bool) : Rm := { r with rows := r.rows ++ [x] }
def upW (r : Rm) (e : List FV) : Rm := { r with waiting := r.waiting ++ [e] }
def upS (r : Rm) (x : Int × Str × Int) : Rm := { r with state := r.state ++ [x] }
def upC (r : Rm) (x : Str × Int × Int × Int) : Rm := { r with receipts := r.receipts ++ [x] }
def upT (r : Rm) (x : Str × Int) : Rm := { r with typing := r.typing ++ [x] }
theorem JH (e : List FV) (r : Rm) (h : Fits NK e) : AG (after evN (line e)) r = (2, upE r e) := by
 rw [Bh, Jv evN (line e) (by decide), if_pos rfl, IO evN e h];rfl
theorem G1 (e : List FV) (r : Rm) (h : Fits NK e) : AG (after waitN (line e)) r = (4, upW r e) := by
 rw [Bh, Jv waitN (line e) (by decide), if_neg (by decide), if_pos rfl, IO waitN e h];rfl
theorem IM (x : Int × Int × Int × Bool) (r : Rm) (h : inInt x.1 ∧ inInt x.2.1 ∧ inInt x.2.2.1) : AG (AK x) r = (3, upR r x) := by
 have e : (cut (AK x) [32]).1 = [114, 111, 119] := by
  have e2 : AK x = [114, 111, 119] ++ 32 :: (itoa x.1 ++ ([32] ++ (itoa x.2.1 ++ ([32] ++ (itoa x.2.2.1 ++ if x.2.2.2 then goneW else []))))) := by simp [AK, rowW]
  rw [e2];exact Dq _ _ (by decide)
 rw [Bh, e, if_neg (by decide), if_neg (by decide), if_pos rfl, Pd x r h];rfl
theorem Gn (l : List Int) (r : Rm) (hl : l ≠ []) (h : ∀ n ∈ l, inInt n) : AG (AB l) r = (5, { r with heads := l }) := by
 have e : (cut (AB l) [32]).1 = [104, 101, 97, 100, 115] := by
  have e2 : AB l = [104, 101, 97, 100, 115] ++ 32 :: join [44] (l.map itoa) := by simp [AB, EI]
  rw [e2];exact Dq _ _ (by decide)
 rw [Bh, e, if_neg (by decide), if_neg (by decide), if_neg (by decide), if_pos rfl, L4 l r hl h];rfl
theorem Gv (x : Int × Str × Int) (r : Rm) (h : inInt x.1 ∧ inInt x.2.2) : AG (Aw x) r = (6, upS r x) := by
 have e : (cut (Aw x) [32]).1 = [101, 110, 116, 114, 121] := by
  have e2 : Aw x = [101, 110, 116, 114, 121] ++ 32 :: (itoa x.1 ++ ([32] ++ (quote x.2.1 ++ ([32] ++ itoa x.2.2)))) := by simp [Aw, DG]
  rw [e2];exact Dq _ _ (by decide)
 rw [Bh, e, if_neg (by decide), if_neg (by decide), if_neg (by decide), if_neg (by decide), if_pos rfl, LL x r h];rfl
theorem Fm (x : Str × Int × Int × Int) (r : Rm) (h : inInt x.2.1 ∧ inInt x.2.2.1 ∧ inInt x.2.2.2) : AG (Am x) r = (7, upC r x) := by
 have e : (cut (Am x) [32]).1 = [114, 101, 99, 101, 105, 112, 116] := by
  have e2 : Am x = [114, 101, 99, 101, 105, 112, 116] ++ 32 :: (quote x.1 ++ ([32] ++ (itoa x.2.1 ++ ([32] ++ (itoa x.2.2.1 ++ ([32] ++ itoa x.2.2.2)))))) := by simp [Am, CE]
  rw [e2];exact Dq _ _ (by decide)
 rw [Bh, e, if_neg (by decide), if_neg (by decide), if_neg (by decide), if_neg (by decide), if_neg (by decide), if_pos rfl, JX x r h];rfl
theorem FS (x : Str × Int) (r : Rm) (h : inInt x.2) : AG (Ap x) r = (8, upT r x) := by
 have e : (cut (Ap x) [32]).1 = [116, 121, 112, 105, 110, 103] := by
  have e2 : Ap x = [116, 121, 112, 105, 110, 103] ++ 32 :: (quote x.1 ++ ([32] ++ itoa x.2)) := by simp [Ap, CW]
  rw [e2];exact Dq _ _ (by decide)
 rw [Bh, e, if_neg (by decide), if_neg (by decide), if_neg (by decide), if_neg (by decide), if_neg (by decide), if_neg (by decide), if_pos rfl, Lt x r h];rfl
theorem DW {s : Str} {y : Rm} (h : Cb s Rm.zero = some y) (L : List Str) : rdAll 0 0 Rm.zero (s :: L) = rdAll 1 1 y L := by
 have e : rdAll 0 0 Rm.zero (s :: L) = (if (match Cb s Rm.zero with | some y => (1, y) | none => (0, Rm.zero)).1 = 0 ∨ (match Cb s Rm.zero with | some y => (1, y) | none => (0, Rm.zero)).1 < 0 ∨ ((match Cb s Rm.zero with | some y => (1, y) | none => (0, Rm.zero)).1 = 5 ∧ (0 : Nat) = 5) then .inr 1 else rdAll 1 (match Cb s Rm.zero with | some y => (1, y) | none => (0, Rm.zero)).1 (match Cb s Rm.zero with | some y => (1, y) | none => (0, Rm.zero)).2 L) := rfl;rw [e, h];rfl
theorem F6 {s : Str} (h : Cb s Rm.zero = none) (L : List Str) : rdAll 0 0 Rm.zero (s :: L) = .inr 1 := by
 have e : rdAll 0 0 Rm.zero (s :: L) = (if (match Cb s Rm.zero with | some y => (1, y) | none => (0, Rm.zero)).1 = 0 ∨ (match Cb s Rm.zero with | some y => (1, y) | none => (0, Rm.zero)).1 < 0 ∨ ((match Cb s Rm.zero with | some y => (1, y) | none => (0, Rm.zero)).1 = 5 ∧ (0 : Nat) = 5) then .inr 1 else rdAll 1 (match Cb s Rm.zero with | some y => (1, y) | none => (0, Rm.zero)).1 (match Cb s Rm.zero with | some y => (1, y) | none => (0, Rm.zero)).2 L) := rfl;rw [e, h];rfl
theorem Jp {s : Str} {k : Nat} {r y : Rm} {i form : Nat} (h : AG s r = (k, y)) (hi : i ≠ 0) (hk : k ≠ 0) (hf : form ≤ k) (h5 : ¬ (k = 5 ∧ form = 5)) (L : List Str) : rdAll i form r (s :: L) = rdAll (i + 1) k y L := by
 rw [rdAll];simp only [if_neg hi, h];rw [if_neg (by omega)]
theorem Di {α : Type} (ln : α → Str) (up : Rm → α → Rm) (k : Nat) (hk : k ≠ 0 ∧ k ≠ 5) : ∀ (l : List α) (_ : ∀ x ∈ l, ∀ r, AG (ln x) r = (k, up r x)) (i form : Nat) (r : Rm) (L : List Str), i ≠ 0 → form ≤ k →
  ∃ j f, j ≠ 0 ∧ form ≤ f ∧ (f = form ∨ f = k) ∧ rdAll i form r (l.map ln ++ L) = rdAll j f (l.foldl up r) L
 | [], _, i, form, r, L, hi, hf => ⟨i, form, hi, Nat.le_refl _, .inl rfl, rfl⟩
 | x :: l, h, i, form, r, L, hi, hf => by
  obtain ⟨j, f, h1, h2, h3, h4⟩ := Di ln up k hk l (fun y hy => h y (List.mem_cons_of_mem _ hy)) (i + 1) k (up r x) L (by omega) (Nat.le_refl _);refine ⟨j, f, h1, by omega, .inr (by omega), ?_⟩;rw [List.map_cons, List.cons_append, Jp (h x (by simp) r) hi hk.1 hf (fun e => hk.2 e.1)];exact h4
theorem RH (l : List (List FV)) : ∀ r : Rm, l.foldl upE r = { r with events := r.events ++ l } := by
 induction l with
 | nil => intro r; simp
 | cons x l ih => intro r; rw [List.foldl_cons, ih]; simp [upE]
theorem R6 (l : List (Int × Int × Int × Bool)) : ∀ r : Rm, l.foldl upR r = { r with rows := r.rows ++ l } := by
 induction l with
 | nil => intro r; simp
 | cons x l ih => intro r; rw [List.foldl_cons, ih]; simp [upR]
theorem R8 (l : List (List FV)) : ∀ r : Rm, l.foldl upW r = { r with waiting := r.waiting ++ l } := by
 induction l with
 | nil => intro r; simp
 | cons x l ih => intro r; rw [List.foldl_cons, ih]; simp [upW]
theorem RM (l : List (Int × Str × Int)) : ∀ r : Rm, l.foldl upS r = { r with state := r.state ++ l } := by
 induction l with
 | nil => intro r; simp
 | cons x l ih => intro r; rw [List.foldl_cons, ih]; simp [upS]
theorem R7 (l : List (Str × Int × Int × Int)) : ∀ r : Rm, l.foldl upC r = { r with receipts := r.receipts ++ l } := by
 induction l with
 | nil => intro r; simp
 | cons x l ih => intro r; rw [List.foldl_cons, ih]; simp [upC]
theorem RW (l : List (Str × Int)) : ∀ r : Rm, l.foldl upT r = { r with typing := r.typing ++ l } := by
 induction l with
 | nil => intro r; simp
 | cons x l ih => intro r; rw [List.foldl_cons, ih]; simp [upT]
theorem Qc (r : Rm) (h : r.Ok) : rdAll 0 0 Rm.zero (AN r) = .inl r := by
 unfold AN;simp only [List.append_assoc, List.singleton_append];simp only [List.cons_append, List.nil_append];rw [DW (Jz r.id r.next Rm.zero h.next rfl)];obtain ⟨j, f, hj, hf, hf2, e⟩ := Di (fun e => after evN (line e)) upE 2 (by omega) r.events (fun x hx y => JH x y (h.events x hx)) 1 1 { Rm.zero with id := r.id, next := r.next } (r.rows.map AK ++ (r.waiting.map (fun e => after waitN (line e)) ++ ((if r.heads = [] then [] else [AB r.heads]) ++ (r.state.map Aw ++ (r.receipts.map Am ++ r.typing.map Ap))))) (by omega) (by omega);rw [e, RH];obtain ⟨j3, f3, hj3, hf3, hf32, e⟩ := Di AK upR 3 (by omega) r.rows (fun x hx y => IM x y (h.rows x hx)) j f { Rm.zero with id := r.id, next := r.next, events := [] ++ r.events } (r.waiting.map (fun e => after waitN (line e)) ++ ((if r.heads = [] then [] else [AB r.heads]) ++ (r.state.map Aw ++ (r.receipts.map Am ++ r.typing.map Ap)))) hj (by omega);refine (show _ = rdAll j f { Rm.zero with id := r.id, next := r.next, events := [] ++ r.events } _ from rfl).trans (e.trans ?_);rw [R6];obtain ⟨j4, f4, hj4, hf4, hf42, e⟩ := Di (fun e => after waitN (line e)) upW 4 (by omega) r.waiting (fun x hx y => G1 x y (h.waiting x hx)) j3 f3 { Rm.zero with id := r.id, next := r.next, events := [] ++ r.events, rows := [] ++ r.rows } ((if r.heads = [] then [] else [AB r.heads]) ++ (r.state.map Aw ++ (r.receipts.map Am ++ r.typing.map Ap))) hj3 (by omega);refine e.trans ?_;rw [R8]
 have h5 : ∃ j f, j ≠ 0 ∧ f ≤ 5 ∧ rdAll j4 f4 { Rm.zero with id := r.id, next := r.next, events := [] ++ r.events, rows := [] ++ r.rows, waiting := [] ++ r.waiting } ((if r.heads = [] then [] else [AB r.heads]) ++ (r.state.map Aw ++ (r.receipts.map Am ++ r.typing.map Ap))) =
   rdAll j f { Rm.zero with id := r.id, next := r.next, events := [] ++ r.events, rows := [] ++ r.rows, waiting := [] ++ r.waiting, heads := r.heads } (r.state.map Aw ++ (r.receipts.map Am ++ r.typing.map Ap)) := by
  by_cases hh : r.heads = []
  ·rw [if_pos hh, hh];exact ⟨j4, f4, hj4, by omega, rfl⟩
  ·rw [if_neg hh];exact ⟨j4 + 1, 5, by omega, Nat.le_refl _, Jp (Gn r.heads _ hh h.heads) hj4 (by omega) (by omega) (by omega) _⟩
 obtain ⟨j5, f5, hj5, hf5, e⟩ := h5;refine e.trans ?_;obtain ⟨j6, f6, hj6, hf6, hf62, e⟩ := Di Aw upS 6 (by omega) r.state (fun x hx y => Gv x y (h.state x hx)) j5 f5 { Rm.zero with id := r.id, next := r.next, events := [] ++ r.events, rows := [] ++ r.rows, waiting := [] ++ r.waiting, heads := r.heads } (r.receipts.map Am ++ r.typing.map Ap) hj5 (by omega);rw [e, RM];obtain ⟨j7, f7, hj7, hf7, hf72, e⟩ := Di Am upC 7 (by omega) r.receipts (fun x hx y => Fm x y (h.receipts x hx)) j6 f6 { Rm.zero with id := r.id, next := r.next, events := [] ++ r.events, rows := [] ++ r.rows, waiting := [] ++ r.waiting, heads := r.heads, state := [] ++ r.state } (r.typing.map Ap) hj6 (by omega);refine e.trans ?_;rw [R7];obtain ⟨j8, f8, hj8, hf8, hf82, e⟩ := Di Ap upT 8 (by omega) r.typing (fun x hx y => FS x y (h.typing x hx)) j7 f7 { Rm.zero with id := r.id, next := r.next, events := [] ++ r.events, rows := [] ++ r.rows, waiting := [] ++ r.waiting, heads := r.heads, state := [] ++ r.state, receipts := [] ++ r.receipts } [] hj7 (by omega);rw [List.append_nil] at e;refine e.trans ?_;rw [RW];rfl
theorem Lq : ∀ L : List Str, L ≠ [] → join [10] L ++ [10] = L.flatMap (fun l => l ++ [10])
 | [], h => absurd rfl h
 | [x], _ => by simp [join]
 | x :: y :: r, _ => by
  have ih := Lq (y :: r) (by simp);show (x ++ [10] ++ join [10] (y :: r)) ++ [10] = (x ++ [10]) ++ (y :: r).flatMap _;rw [← ih, List.append_assoc]
theorem Ir (r : Rm) : AN r ≠ [] := by unfold AN; simp
theorem P6 (r : Rm) : lines (Dt r) = AN r ++ [[]] := by
 unfold Dt;rw [Lq _ (Ir r)];exact Go.Proofs.YteadlcncnhbmjaaGreatDoor.JG _ (nl_rm r)
theorem Rt (r : Rm) (h : r.Ok) : read (Dt r) = .inl r := by
 unfold read;rw [P6 r];simp only [List.dropLast_concat, Qc r h];rw [if_neg];rintro (h1 | h1)
 ·have := List.length_pos_iff.2 (Ir r);simp only [List.length_append, List.length_singleton] at h1;omega
 ·simp at h1
def Upto (f : Nat) (r : Rm) : Prop := (f < 2 → r.events = []) ∧ (f < 3 → r.rows = []) ∧ (f < 4 → r.waiting = []) ∧ (f < 5 → r.heads = []) ∧ (f < 6 → r.state = []) ∧ (f < 7 → r.receipts = []) ∧ (f < 8 → r.typing = [])
theorem Fl {s : Str} {r y : Rm} (h : Cb s r = some y) : As y.id y.next = s ∧ (∃ i n, y = { r with id := i, next := n }) ∧ (inInt r.next → inInt y.next) := by
 unfold Cb at h;simp only at h;have hz : ∃ z : Int × RS, (if (has nextW (rtext (eat headW (s, false))).2).1 = true then rnum (has nextW (rtext (eat headW (s, false))).2).2 else (r.next, (has nextW (rtext (eat headW (s, false))).2).2)) = z ∧ (inInt r.next → inInt z.1) := by
  refine ⟨_, rfl, fun hr => ?_⟩;split
  ·exact Bi _
  ·exact hr
 obtain ⟨z, hz, hzr⟩ := hz;rw [hz] at h;by_cases hc : z.2.2 = false ∧ As (rtext (eat headW (s, false))).1 z.1 = s
 ·rw [if_pos hc] at h;injection h with h;subst h;exact ⟨hc.2, ⟨_, _, rfl⟩, hzr⟩
 ·rw [if_neg hc] at h;cases h
theorem F2 {s : Str} {r y : Rm} (h : rdRow s r = some y) : ∃ x, AK x = s ∧ y = upR r x ∧ inInt x.1 ∧ inInt x.2.1 ∧ inInt x.2.2.1 := by
 unfold rdRow at h;simp only at h;split at h
 ·rename_i hc;injection h with h;exact ⟨_, hc.2, h.symm, Bi _, Bi _, Bi _⟩
 ·cases h
theorem Nz {α : Type} (one : RS → α × RS) (n : Nat) (r : RS) : (Au one (n + 1) r).1 ≠ [] := by
 unfold Au;split <;> simp
theorem Ey {s : Str} {r y : Rm} (h : C8 s r = some y) : ∃ l, AB l = s ∧ y = { r with heads := l } ∧ l ≠ [] ∧ ∀ n ∈ l, inInt n := by
 unfold C8 at h;simp only at h;split at h
 ·rename_i hc;injection h with h;exact ⟨_, hc.2, h.symm, Nz _ _ _, DL (P := inInt) Bi _ _⟩
 ·cases h
theorem Ex {s : Str} {r y : Rm} (h : Da s r = some y) : ∃ x, Aw x = s ∧ y = upS r x ∧ inInt x.1 ∧ inInt x.2.2 := by
 unfold Da at h;simp only at h;split at h
 ·rename_i hc;injection h with h;exact ⟨_, hc.2, h.symm, Bi _, Bi _⟩
 ·cases h
theorem DS {s : Str} {r y : Rm} (h : Cs s r = some y) : ∃ x, Am x = s ∧ y = upC r x ∧ inInt x.2.1 ∧ inInt x.2.2.1 ∧ inInt x.2.2.2 := by
 unfold Cs at h;simp only at h;split at h
 ·rename_i hc;injection h with h;exact ⟨_, hc.2, h.symm, Bi _, Bi _, Bi _⟩
 ·cases h
theorem Ea {s : Str} {r y : Rm} (h : CL s r = some y) : ∃ x, Ap x = s ∧ y = upT r x ∧ inInt x.2 := by
 unfold CL at h;simp only at h;split at h
 ·rename_i hc;injection h with h;exact ⟨_, hc.2, h.symm, Bi _⟩
 ·cases h
theorem Dw {s w : Str} {e : List FV} (h : By s w = some e) : after w (line e) = s ∧ Fits NK e := by
 unfold By at h;split at h
 ·split at h
  ·rename_i f hf;split at h
   ·rename_i ha;injection h with h;subst h;exact ⟨ha, F3 hf⟩
   ·cases h
  ·cases h
 ·cases h
theorem Rm.Ok.upE {r : Rm} (h : r.Ok) {e : List FV} (he : Fits NK e) : (Ar.upE r e).Ok := ⟨h.next, fun x hx => (List.mem_append.1 hx).elim (h.events x) (fun hx => by rw [List.mem_singleton.1 hx]; exact he), h.rows, h.waiting, h.heads, h.state, h.receipts, h.typing⟩
theorem Rm.Ok.upW {r : Rm} (h : r.Ok) {e : List FV} (he : Fits NK e) : (Ar.upW r e).Ok := ⟨h.next, h.events, h.rows, fun x hx => (List.mem_append.1 hx).elim (h.waiting x) (fun hx => by rw [List.mem_singleton.1 hx]; exact he), h.heads, h.state, h.receipts, h.typing⟩
theorem Rm.Ok.upR {r : Rm} (h : r.Ok) {e : Int × Int × Int × Bool} (he : inInt e.1 ∧ inInt e.2.1 ∧ inInt e.2.2.1) : (Ar.upR r e).Ok := ⟨h.next, h.events, fun x hx => (List.mem_append.1 hx).elim (h.rows x) (fun hx => by rw [List.mem_singleton.1 hx]; exact he), h.waiting, h.heads, h.state, h.receipts, h.typing⟩
theorem Rm.Ok.upS {r : Rm} (h : r.Ok) {e : Int × Str × Int} (he : inInt e.1 ∧ inInt e.2.2) : (Ar.upS r e).Ok := ⟨h.next, h.events, h.rows, h.waiting, h.heads, fun x hx => (List.mem_append.1 hx).elim (h.state x) (fun hx => by rw [List.mem_singleton.1 hx]; exact he), h.receipts, h.typing⟩
theorem Rm.Ok.upC {r : Rm} (h : r.Ok) {e : Str × Int × Int × Int} (he : inInt e.2.1 ∧ inInt e.2.2.1 ∧ inInt e.2.2.2) : (Ar.upC r e).Ok := ⟨h.next, h.events, h.rows, h.waiting, h.heads, h.state, fun x hx => (List.mem_append.1 hx).elim (h.receipts x) (fun hx => by rw [List.mem_singleton.1 hx]; exact he), h.typing⟩
theorem Rm.Ok.upT {r : Rm} (h : r.Ok) {e : Str × Int} (he : inInt e.2) : (Ar.upT r e).Ok := ⟨h.next, h.events, h.rows, h.waiting, h.heads, h.state, h.receipts, fun x hx => (List.mem_append.1 hx).elim (h.typing x) (fun hx => by rw [List.mem_singleton.1 hx]; exact he)⟩
theorem BM {r y : Rm} {k k' : Nat} {x : Option Rm} (h : retK r k x = (k', y)) (hk : k' ≠ 0) : k' = k ∧ x = some y := by
 unfold retK at h;split at h
 ·injection h with h1 h2; subst h1 h2; exact ⟨rfl, rfl⟩
 ·injection h with h1 h2; exact absurd h1.symm hk
theorem KN {s : Str} {r y : Rm} {k f : Nat} (h : AG s r = (k, y)) (hk : k ≠ 0) (hu : Upto f r) (hf : f ≤ k) (h5 : ¬ (k = 5 ∧ f = 5)) : AN y = AN r ++ [s] ∧ Upto k y ∧ (r.Ok → y.Ok) := by
 obtain ⟨u2, u3, u4, u5, u6, u7, u8⟩ := hu;rw [Bh] at h;split at h
 ·rename_i hw;obtain ⟨rfl, hx⟩ := BM h hk
  cases he : By s (cut s [32]).1 with
  | none => rw [he] at hx; cases hx
  | some e =>
   rw [he] at hx;injection hx with hx;obtain ⟨h1, h2⟩ := Dw he;rw [hw] at h1;subst hx;have e3 := u3 (by omega); have e4 := u4 (by omega); have e5 := u5 (by omega); have e6 := u6 (by omega); have e7 := u7 (by omega); have e8 := u8 (by omega);refine ⟨?_, ?_, fun hr => hr.upE h2⟩
   ·simp [AN, e3, e4, e5, e6, e7, e8, h1]
   ·exact ⟨fun h => by omega, fun _ => e3, fun _ => e4, fun _ => e5, fun _ => e6, fun _ => e7, fun _ => e8⟩
 ·split at h
  ·rename_i hw;obtain ⟨rfl, hx⟩ := BM h hk
   cases he : By s (cut s [32]).1 with
   | none => rw [he] at hx; cases hx
   | some e =>
    rw [he] at hx;injection hx with hx;obtain ⟨h1, h2⟩ := Dw he;rw [hw] at h1;subst hx;have e5 := u5 (by omega); have e6 := u6 (by omega); have e7 := u7 (by omega); have e8 := u8 (by omega);refine ⟨?_, ?_, fun hr => hr.upW h2⟩
    ·simp [AN, e5, e6, e7, e8, h1]
    ·exact ⟨fun h => by omega, fun h => by omega, fun h => by omega, fun _ => e5, fun _ => e6, fun _ => e7, fun _ => e8⟩
  ·split at h
   ·obtain ⟨rfl, hx⟩ := BM h hk;obtain ⟨x, h1, rfl, h2⟩ := F2 hx;have e4 := u4 (by omega); have e5 := u5 (by omega); have e6 := u6 (by omega); have e7 := u7 (by omega); have e8 := u8 (by omega);refine ⟨?_, ?_, fun hr => hr.upR h2⟩
    ·simp [AN, upR, e4, e5, e6, e7, e8, h1]
    ·exact ⟨fun h => by omega, fun h => by omega, fun _ => e4, fun _ => e5, fun _ => e6, fun _ => e7, fun _ => e8⟩
   ·split at h
    ·obtain ⟨rfl, hx⟩ := BM h hk;obtain ⟨l, h1, rfl, h2, h3⟩ := Ey hx;have e5 := u5 (by omega); have e6 := u6 (by omega); have e7 := u7 (by omega); have e8 := u8 (by omega);refine ⟨?_, ?_, fun hr => ⟨hr.next, hr.events, hr.rows, hr.waiting, h3, hr.state, hr.receipts, hr.typing⟩⟩
     ·simp [AN, e5, e6, e7, e8, h1, h2]
     ·exact ⟨fun h => by omega, fun h => by omega, fun h => by omega, fun h => by omega, fun _ => e6, fun _ => e7, fun _ => e8⟩
    ·split at h
     ·obtain ⟨rfl, hx⟩ := BM h hk;obtain ⟨x, h1, rfl, h2⟩ := Ex hx;have e7 := u7 (by omega); have e8 := u8 (by omega);refine ⟨?_, ?_, fun hr => hr.upS h2⟩
      ·simp [AN, upS, e7, e8, h1]
      ·exact ⟨fun h => by omega, fun h => by omega, fun h => by omega, fun h => by omega, fun h => by omega, fun _ => e7, fun _ => e8⟩
     ·split at h
      ·obtain ⟨rfl, hx⟩ := BM h hk;obtain ⟨x, h1, rfl, h2⟩ := DS hx;have e8 := u8 (by omega);refine ⟨?_, ?_, fun hr => hr.upC h2⟩
       ·simp [AN, upC, e8, h1]
       ·exact ⟨fun h => by omega, fun h => by omega, fun h => by omega, fun h => by omega, fun h => by omega, fun h => by omega, fun _ => e8⟩
      ·split at h
       ·obtain ⟨rfl, hx⟩ := BM h hk;obtain ⟨x, h1, rfl, h2⟩ := Ea hx;refine ⟨?_, ?_, fun hr => hr.upT h2⟩
        ·simp [AN, upT, h1];rfl
        ·exact ⟨fun h => by omega, fun h => by omega, fun h => by omega, fun h => by omega, fun h => by omega, fun h => by omega, fun h => by omega⟩
       ·injection h with h1 _;exact absurd h1.symm hk
theorem Ik : ∀ (L : List Str) (i f : Nat) (r y : Rm), i ≠ 0 → Upto f r → rdAll i f r L = .inl y → AN y = AN r ++ L ∧ (r.Ok → y.Ok)
 | [], i, f, r, y, _, _, h => by
  injection h with h;subst h;exact ⟨by simp, id⟩
 | s :: L, i, f, r, y, hi, hu, h => by
  rw [rdAll] at h;simp only [if_neg hi] at h;split at h
  ·cases h
  ·rename_i hc;have hs := KN (s := s) (r := r) (k := (AG s r).1) (y := (AG s r).2) (f := f) rfl (by omega) hu (by omega) (by omega);have ih := Ik L (i + 1) _ _ y (by omega) hs.2.1 h;refine ⟨?_, fun hr => ih.2 (hs.2.2 hr)⟩;rw [ih.1, hs.1];simp
theorem zero_Ok : Rm.zero.Ok := ⟨(by show inInt 0; unfold inInt; omega), (by intro e h; cases h), (by intro e h; cases h), (by intro e h; cases h), (by intro e h; cases h), (by intro e h; cases h), (by intro e h; cases h), (by intro e h; cases h)⟩
theorem K4 {L : List Str} {y : Rm} (h : rdAll 0 0 Rm.zero L = .inl y) (hL : L ≠ []) : AN y = L ∧ y.Ok := by
 cases L with
 | nil => exact absurd rfl hL
 | cons s L =>
  cases hh : Cb s Rm.zero with
  | none => rw [F6 hh] at h; cases h
  | some z =>
   rw [DW hh] at h;obtain ⟨h1, ⟨a, n, rfl⟩, h3⟩ := Fl hh;have hU : Upto 1 { Rm.zero with id := a, next := n } := ⟨fun _ => rfl, fun _ => rfl, fun _ => rfl, fun _ => rfl, fun _ => rfl, fun _ => rfl, fun _ => rfl⟩;have ih := Ik L 1 1 _ y (by omega) hU h;have hOk : Rm.Ok { Rm.zero with id := a, next := n } := ⟨h3 zero_Ok.next, (by intro e h; cases h), (by intro e h; cases h), (by intro e h; cases h), (by intro e h; cases h), (by intro e h; cases h), (by intro e h; cases h), (by intro e h; cases h)⟩;refine ⟨?_, ih.2 hOk⟩;rw [ih.1];have h1' : As a n = s := h1;simp [AN, Rm.zero, h1']
theorem L0 {s : Str} {y : Rm} (h : read s = .inl y) : Dt y = s ∧ y.Ok := by
 unfold read at h;split at h
 ·cases h
 ·rename_i r hr;split at h
  ·cases h
  ·rename_i hc;injection h with h;subst h;have hne := Es s;have hg : (lines s).getLast? = some [] := Decidable.byContradiction fun hx => hc (.inr hx)
   have hd : lines s = (lines s).dropLast ++ [[]] := by
    have := List.dropLast_concat_getLast hne;rw [List.getLast?_eq_some_getLast hne] at hg;injection hg with hg;rw [hg] at this;exact this.symm
   have hL : (lines s).dropLast ≠ [] := by
    intro e;rw [e] at hd;exact hc (.inl (by rw [hd]; rfl))
   obtain ⟨h1, h2⟩ := K4 hr hL;refine ⟨?_, h2⟩;have key : ∀ L : List Str, L ≠ [] → join [10] L ++ [10] = Dm (L ++ [[]]) := by
    intro L
    induction L with
    | nil => intro h; exact absurd rfl h
    | cons x r ih =>
     intro _
     cases r with
     | nil => rfl
     | cons y r =>
      have := ih (by simp);show (x ++ [10] ++ join [10] (y :: r)) ++ [10] = x ++ 10 :: Dm ((y :: r) ++ [[]]);rw [← this];simp
   unfold Dt;rw [h1, key _ hL, ← hd, FR]
theorem Ju : ∀ (L : List Str) (i f : Nat) (r : Rm) (n : Nat), rdAll i f r L = .inr n → i < n ∧ n ≤ i + L.length
 | [], i, f, r, n, h => by cases h
 | s :: L, i, f, r, n, h => by
  obtain ⟨x, hx⟩ : ∃ x : Nat × Rm, rdAll i f r (s :: L) = if x.1 = 0 ∨ x.1 < f ∨ x.1 = 5 ∧ f = 5 then .inr (i + 1) else rdAll (i + 1) x.1 x.2 L := ⟨_, rfl⟩
  rw [hx] at h;split at h
  ·injection h with h;rw [List.length_cons];omega
  ·have := Ju L (i + 1) _ _ n h;rw [List.length_cons];omega
theorem Pf {s : Str} {n : Nat} (h : read s = .inr n) : 0 < n ∧ n ≤ (lines s).length := by
 unfold read at h;have hp := List.length_pos_iff.2 (Es s);split at h
 ·rename_i m hm;injection h with h;subst h;have := Ju _ _ _ _ _ hm;rw [List.length_dropLast] at this;omega
 ·split at h
  ·injection h with h;subst h;exact ⟨hp, Nat.le_refl _⟩
  ·cases h
end Ar
namespace Go.Proofs.YteadlcncnhbmjaaGreatDoor
open Go.RowKit Go.Lib
theorem JI (A B : Option Addr) (ca cb : Nat) (a : List (Int)) (w : World) (ha : Rd w A a.length (intL a)) (hb : Rd w B a.length (intL a)) (hn : a.length ≤ 1000000) :
  Calls Tryz.prog 53 #[.slice A a.length ca, .slice B a.length cb] w fun e w' => e = .returned (.bool true) ∧ ∃ q, w' = w.drewN q := by
 have HA := hid ha;have HB := hid hb;clear ha hb;have hne : ((a.length : Int) != (a.length : Int)) = false := by rw [bne_eq_false_iff_eq]
 go_enter Tryz.func53, Tryz.ntmps53;go_wp2_with fail
 go_loopw [5] (fun i wr => ∃ k q : Nat, k ≤ a.length ∧ i = .int .i64 k ∧ wr = w.drewN q) (fun i _ => a.length - (RowKit.intOf i).toNat)
 case atStart => exact ⟨0, 0, by omega, rfl, rfl⟩
 case round =>
  obtain ⟨k, q, hk, rfl, rfl⟩ := hrel;by_cases hlt : k < a.length
  ·obtain ⟨ba, oa, x, rfl, hx, hcx⟩ := HA.out.int_at hlt;obtain ⟨bb, ob, y, rfl, hy, hcy⟩ := HB.out.int_at hlt;obtain rfl : x = y := Option.some.inj (hx.symm.trans hy);have h1 : (x != x) = false := by rw [bne_eq_false_iff_eq]
   clear hx hy;go_wp2_with fail
   go_quiet (fail)
   go_wp2_with fail
   go_roundw
   case rel => exact ⟨k + 1, _, by omega, by go_num, rfl⟩
   case measure => simp [RowKit.intOf]; omega
  ·obtain rfl : k = a.length := by omega
   go_wp2_with fail;go_ret;exact ⟨rfl, q, rfl⟩
theorem IW (A B : Option Addr) (ca cb : Nat) (a : List (List UInt8)) (w : World) (ha : Rd w A a.length (strL a)) (hb : Rd w B a.length (strL a)) (hn : a.length ≤ 1000000) :
  Calls Tryz.prog 123 #[.slice A a.length ca, .slice B a.length cb] w fun e w' => e = .returned (.bool true) ∧ ∃ q, w' = w.drewN q := by
 have HA := hid ha;have HB := hid hb;clear ha hb;have hne : ((a.length : Int) != (a.length : Int)) = false := by rw [bne_eq_false_iff_eq]
 go_enter Tryz.func123, Tryz.ntmps123;go_wp2_with fail
 go_loopw [5] (fun i wr => ∃ k q : Nat, k ≤ a.length ∧ i = .int .i64 k ∧ wr = w.drewN q) (fun i _ => a.length - (RowKit.intOf i).toNat)
 case atStart => exact ⟨0, 0, by omega, rfl, rfl⟩
 case round =>
  obtain ⟨k, q, hk, rfl, rfl⟩ := hrel;by_cases hlt : k < a.length
  ·obtain ⟨ba, oa, x, rfl, hx, hcx⟩ := HA.out.str_at hlt;obtain ⟨bb, ob, y, rfl, hy, hcy⟩ := HB.out.str_at hlt;obtain rfl : x = y := Option.some.inj (hx.symm.trans hy);have h1 : (!((bstr x).toList == (bstr x).toList)) = false := by rw [beq_self_eq_true]; rfl
   generalize bstr x = sx at *;clear hx hy;go_wp2_with fail
   go_quiet (fail)
   go_wp2_with fail
   go_roundw
   case rel => exact ⟨k + 1, _, by omega, by go_num, rfl⟩
   case measure => simp [RowKit.intOf]; omega
  ·obtain rfl : k = a.length := by omega
   go_wp2_with fail;go_ret;exact ⟨rfl, q, rfl⟩
theorem Ks (A B : Option Addr) (ca cb : Nat) (a : List (List UInt8)) (w : World) (ha : Rd w A a.length (strL a)) (hb : Rd w B a.length (strL a)) (hn : a.length ≤ 1000000) :
  Calls Tryz.prog 34 #[.slice A a.length ca, .slice B a.length cb] w fun e w' => e = .returned (.bool true) ∧ ∃ q, w' = w.drewN q := by
 have HA := hid ha;have HB := hid hb;clear ha hb;have hne : ((a.length : Int) != (a.length : Int)) = false := by rw [bne_eq_false_iff_eq]
 go_enter Tryz.func34, Tryz.ntmps34;go_wp2_with fail
 go_loopw [5] (fun i wr => ∃ k q : Nat, k ≤ a.length ∧ i = .int .i64 k ∧ wr = w.drewN q) (fun i _ => a.length - (RowKit.intOf i).toNat)
 case atStart => exact ⟨0, 0, by omega, rfl, rfl⟩
 case round =>
  obtain ⟨k, q, hk, rfl, rfl⟩ := hrel;by_cases hlt : k < a.length
  ·obtain ⟨ba, oa, x, rfl, hx, hcx⟩ := HA.out.str_at hlt;obtain ⟨bb, ob, y, rfl, hy, hcy⟩ := HB.out.str_at hlt;obtain rfl : x = y := Option.some.inj (hx.symm.trans hy);have h1 : (!((bstr x).toList == (bstr x).toList)) = false := by rw [beq_self_eq_true]; rfl
   generalize bstr x = sx at *;clear hx hy;go_wp2_with fail
   go_quiet (fail)
   go_wp2_with fail
   go_roundw
   case rel => exact ⟨k + 1, _, by omega, by go_num, rfl⟩
   case measure => simp [RowKit.intOf]; omega
  ·obtain rfl : k = a.length := by omega
   go_wp2_with fail;go_ret;exact ⟨rfl, q, rfl⟩
abbrev lvC (A1 A2 : Option Addr) (n1 n2 c1 c2 : Nat) (l1 l2 l3 l4 l5 l6 l7 : Int) : Array Value := #[.slice A1 n1 c1, .slice A2 n2 c2, .int .i64 l1, .int .i64 l2, .int .i64 l3, .int .i64 l4, .int .i64 l5, .int .i64 l6, .int .i64 l7]
theorem NA (A1 A2 B1 B2 : Option Addr) (c1 c2 d1 d2 : Nat) (us : List (List UInt8 × Int)) (ks : List (Int × Int)) (l1 l2 l3 l4 l5 l6 l7 : Int) (w : World) (hA1 : Rd w A1 (us.length * 2) (usrL us)) (hB1 : Rd w B1 (us.length * 2) (usrL us)) (hA2 : Rd w A2 (ks.length * 2) (kndL ks)) (hB2 : Rd w B2 (ks.length * 2) (kndL ks)) (hu : us.length ≤ 1000000) (hk : ks.length ≤ 1000000) :
  Calls Tryz.prog 124 #[.agg (lvC A1 A2 us.length ks.length c1 c2 l1 l2 l3 l4 l5 l6 l7), .agg (lvC B1 B2 us.length ks.length d1 d2 l1 l2 l3 l4 l5 l6 l7)] w fun e w' => e = .returned (.bool true) ∧ Below w.heap.size w w' := by
 have hb1 := (Below.refl w.heap.size w).alloc (Nat.le_refl _) (.cells (lvC A1 A2 us.length ks.length c1 c2 l1 l2 l3 l4 l5 l6 l7) 34);have hb2 := hb1.alloc hb1.size (.cells (lvC B1 B2 us.length ks.length d1 d2 l1 l2 l3 l4 l5 l6 l7) 34);have HB := hid hb2;have HA1 := hid (hA1.below hb2);have HB1 := hid (hB1.below hb2);have HA2 := hid (hA2.below hb2);have HB2 := hid (hB2.below hb2);have hk1 := (Blk.new w 34 (lvC A1 A2 us.length ks.length c1 c2 l1 l2 l3 l4 l5 l6 l7)).alloc (.cells (lvC B1 B2 us.length ks.length d1 d2 l1 l2 l3 l4 l5 l6 l7) 34);have hk2 := Blk.new (w.alloc (.cells (lvC A1 A2 us.length ks.length c1 c2 l1 l2 l3 l4 l5 l6 l7) 34)) 34 (lvC B1 B2 us.length ks.length d1 d2 l1 l2 l3 l4 l5 l6 l7);rw [World.size_alloc] at hk2;have p0 := hk1.cell 0;have p1 := hk1.cell 1;have p2 := hk1.cell 2;have p3 := hk1.cell 3;have p4 := hk1.cell 4;have p5 := hk1.cell 5;have p6 := hk1.cell 6;have p7 := hk1.cell 7;have p8 := hk1.cell 8;have q0 := hk2.cell 0;have q1 := hk2.cell 1;have q2 := hk2.cell 2;have q3 := hk2.cell 3;have q4 := hk2.cell 4;have q5 := hk2.cell 5;have q6 := hk2.cell 6;have q7 := hk2.cell 7;have q8 := hk2.cell 8;change _ = some (Value.slice A1 us.length c1) at p0;change _ = some (Value.slice A2 ks.length c2) at p1;change _ = some (Value.int .i64 l1) at p2;change _ = some (Value.int .i64 l2) at p3;change _ = some (Value.int .i64 l3) at p4;change _ = some (Value.int .i64 l4) at p5;change _ = some (Value.int .i64 l5) at p6;change _ = some (Value.int .i64 l6) at p7;change _ = some (Value.int .i64 l7) at p8;change _ = some (Value.slice B1 us.length d1) at q0;change _ = some (Value.slice B2 ks.length d2) at q1;change _ = some (Value.int .i64 l1) at q2;change _ = some (Value.int .i64 l2) at q3;change _ = some (Value.int .i64 l3) at q4;change _ = some (Value.int .i64 l4) at q5;change _ = some (Value.int .i64 l5) at q6;change _ = some (Value.int .i64 l6) at q7;change _ = some (Value.int .i64 l7) at q8;clear hA1 hB1 hA2 hB2 hk1 hk2 hb1 hb2;have e1 : ((us.length : Int) != (us.length : Int)) = false := by rw [bne_eq_false_iff_eq]
 have e2 : ((ks.length : Int) != (ks.length : Int)) = false := by rw [bne_eq_false_iff_eq]
 generalize hw2 : (w.alloc (.cells (lvC A1 A2 us.length ks.length c1 c2 l1 l2 l3 l4 l5 l6 l7) 34)).alloc (.cells (lvC B1 B2 us.length ks.length d1 d2 l1 l2 l3 l4 l5 l6 l7) 34) = w2 at *;go_enter Tryz.func124, Tryz.ntmps124;go_wp2_with fail
 go_loopw [5] (fun i wr => ∃ k q : Nat, k ≤ us.length ∧ i = .int .i64 k ∧ wr = w2.drewN q) (fun i _ => us.length - (RowKit.intOf i).toNat)
 case atStart => exact ⟨0, 0, by omega, rfl, rfl⟩
 case round =>
  obtain ⟨k, q, hk', rfl, rfl⟩ := hrel;by_cases hlt : k < us.length
  ·obtain ⟨ba, oa, x, rfl, hx, ha0, ha1⟩ := HA1.out.usr_at hlt;obtain ⟨bb, ob, y, rfl, hy, hb0, hb1⟩ := HB1.out.usr_at hlt;obtain rfl : x = y := Option.some.inj (hx.symm.trans hy);have h1 : (!((bstr x.1).toList == (bstr x.1).toList)) = false := by rw [beq_self_eq_true]; rfl
   have h2 : (x.2 != x.2) = false := by rw [bne_eq_false_iff_eq]
   generalize bstr x.1 = sx at *;generalize x.2 = nx at *;clear hx hy;go_wp2_with fail
   go_quiet (fail)
   go_wp2_with fail
   go_roundw
   case rel => exact ⟨k + 1, _, by omega, by go_num, rfl⟩
   case measure => simp [RowKit.intOf]; omega
  ·obtain rfl : k = us.length := by omega
   go_wp2_with fail
   go_loopw [6] (fun i wr => ∃ k q : Nat, k ≤ ks.length ∧ i = .int .i64 k ∧ wr = w2.drewN q) (fun i _ => ks.length - (RowKit.intOf i).toNat)
   case atStart => exact ⟨0, _, by omega, rfl, rfl⟩
   case round =>
    obtain ⟨j, q', hj', rfl, rfl⟩ := hrel;by_cases hlt2 : j < ks.length
    ·obtain ⟨ba, oa, x, rfl, hx, ha0, ha1⟩ := HA2.out.knd_at hlt2;obtain ⟨bb, ob, y, rfl, hy, hb0, hb1⟩ := HB2.out.knd_at hlt2;obtain rfl : x = y := Option.some.inj (hx.symm.trans hy);have h1 : (x.1 != x.1) = false := by rw [bne_eq_false_iff_eq]
     have h2 : (x.2 != x.2) = false := by rw [bne_eq_false_iff_eq]
     generalize x.1 = mx at *;generalize x.2 = nx at *;clear hx hy;go_wp2_with fail
     go_quiet (fail)
     go_wp2_with fail
     go_roundw
     case rel => exact ⟨j + 1, _, by omega, by go_num, rfl⟩
     case measure => simp [RowKit.intOf]; omega
    ·obtain rfl : j = ks.length := by omega
     go_wp2_with fail;go_ret;exact ⟨rfl, below_drewN HB.out _⟩
end Go.Proofs.YteadlcncnhbmjaaGreatDoor
