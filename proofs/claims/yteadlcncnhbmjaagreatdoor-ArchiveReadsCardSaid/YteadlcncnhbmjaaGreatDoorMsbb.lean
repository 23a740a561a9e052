/- The texts Cx1, Cx2, Rg1, Ba1, Bb0 of this proof, one behind the other. -/
import Derived.Test.YteadlcncnhbmjaaGreatDoorMsba
import Derived.Test.YteadlcncnhbmjaaGreatDoorMsap
import Derived.Test.YteadlcncnhbmjaaGreatDoorMsay
import Derived.Test.YteadlcncnhbmjaaGreatDoorMsah
import Derived.Test.YteadlcncnhbmjaaGreatDoorMsai
import Derived.Test.YteadlcncnhbmjaaGreatDoorMsas
import Derived.Test.YteadlcncnhbmjaaGreatDoorMsam
import Derived.Test.YteadlcncnhbmjaaGreatDoorMsar
set_option linter.unusedSimpArgs false
set_option maxHeartbeats 16000000
set_option maxRecDepth 100000
set_option linter.unusedVariables false
namespace Ar
theorem Od (c : UInt8) : numch c = true ↔ c.toNat = 45 ∨ (48 ≤ c.toNat ∧ c.toNat ≤ 57) := by
 unfold numch;exact decide_eq_true_iff
theorem M8 {p : UInt8 → Bool} {s : Str} {k : Nat} (h : ∀ c ∈ s.take k, p c = true) (hs : ∀ c, s[k]? = some c → p c = false) : s.take k = s.takeWhile p ∧ s.drop k = s.dropWhile p := by
 have e := (List.take_append_drop k s).symm;have hd : (s.drop k).takeWhile p = [] ∧ (s.drop k).dropWhile p = s.drop k := by
  cases hh : s.drop k with
  | nil => exact ⟨rfl, rfl⟩
  | cons c r =>
   have hc : s[k]? = some c := by
    have := congrArg (fun l : Str => l[0]?) hh;rw [List.getElem?_drop] at this;exact this
   have := hs c hc;exact ⟨by rw [List.takeWhile_cons, this]; rfl, by rw [List.dropWhile_cons, this]; rfl⟩
 constructor
 ·conv => rhs; rw [e]
  rw [List.takeWhile_append_of_pos h, hd.1, List.append_nil]
 ·conv => rhs; rw [e]
  rw [List.dropWhile_append_of_pos h, hd.2]
end Ar
namespace Go.Proofs.YteadlcncnhbmjaaGreatDoor
open Go.RowKit Go.Lib
def SgA (o : Option (List UInt8)) (e : Ending) : Prop := (∃ t, o = some t ∧ e = .returned (.tuple #[.string (bstr t), .bool true])) ∨ (o = none ∧ e = .returned (.tuple #[.string ⟨#[]⟩, .bool false]))
theorem BO (s : List UInt8) (c : UInt8) (w : World) (hs : s.length ≤ 1000000) : Calls Tryz.prog 58 #[.string (bstr s), .int .u8 (c.toNat : Int)] w fun e w' => SgA (Ar.xsign c s) e ∧ w' = w := by
 cases s with
 | nil =>
  have hz : (((bstr ([] : List UInt8)).size : Int) == 0) = true := rfl;generalize bstr ([] : List UInt8) = S at *;go_enter Tryz.func58, Tryz.ntmps58;go_wp2_with fail
  go_ret2
  exact ⟨.inr ⟨rfl, rfl⟩, rfl⟩
 | cons d r =>
  have hi0 : 0 < (bstr (d :: r)).size := by rw [Ab]; simp
  have hz : (((bstr (d :: r)).size : Int) == 0) = false := by rw [beq_eq_false_iff_ne]; omega
  have e0 : (bstr (d :: r))[0]'hi0 = d := rfl;have hex : (bstr (d :: r)).extract 1 (bstr (d :: r)).size = bstr r := BA (bstr (d :: r)) 1;by_cases hd : d = c
  ·have hy : ((((bstr (d :: r))[0]'hi0).toNat : Int) != (c.toNat : Int)) = false := by rw [e0, hd]; exact bne_self_eq_false _
   have HX : Hid (Ar.xsign c (d :: r) = some r) := hid (if_pos hd);clear e0 hd;generalize bstr (d :: r) = S at *;generalize hRr : bstr r = R at *;go_enter Tryz.func58, Tryz.ntmps58;go_wp2_with fail
   go_ret2
   exact ⟨.inl ⟨r, HX.out, by rw [hRr]; rfl⟩, rfl⟩
  ·have hy : ((((bstr (d :: r))[0]'hi0).toNat : Int) != (c.toNat : Int)) = true := by rw [e0, bne_iff_ne]; exact fun h => hd (Ar.Cv (by omega))
   have HX : Hid (Ar.xsign c (d :: r) = none) := hid (if_neg hd);clear e0 hd;generalize bstr (d :: r) = S at *;go_enter Tryz.func58, Tryz.ntmps58;go_wp2_with fail
   go_ret2
   exact ⟨.inr ⟨HX.out, rfl⟩, rfl⟩
def NmA (o : Option (Int × List UInt8)) (e : Ending) : Prop := (∃ n t, o = some (n, t) ∧ e = .returned (.tuple #[.int .i64 n, .string (bstr t), .bool true])) ∨ (o = none ∧ e = .returned (.tuple #[.int .i64 0, .string ⟨#[]⟩, .bool false]))
theorem BV (S : ByteArray) (w : World) (hs : S.size ≤ 1000000) : Calls Tryz.prog 130 #[.string S] w fun e w' => NmA (Ar.xnum S.data.toList) e ∧ Below w.heap.size w w' := by
 have HAT := hid (CS S);have HSZ : Hid (S.data.toList.length = S.size) := hid (AI S);have HEX := hid (C7 S);have HEB := hid (BA S);generalize hLL : S.data.toList = L at *;clear hLL;go_enter Tryz.func130, Tryz.ntmps130;go_wp2_with fail
 go_loopw [5] (fun ix wr => ∃ k : Nat, k ≤ S.size ∧ ix = .int .i64 k ∧ wr = w ∧ ∀ c ∈ L.take k, Ar.numch c = true) (fun ix _ => S.size - (RowKit.intOf ix).toNat)
 case atStart => exact ⟨0, Nat.zero_le _, rfl, rfl, fun c h => by simp at h⟩
 case round =>
  obtain ⟨k, hk, rfl, rfl, hall⟩ := hrel;have HALL := hid hall;clear hall;have hend : Hid ((∀ c, L[k]? = some c → Ar.numch c = false) → (L.take k = L.takeWhile Ar.numch ∧ L.drop k = L.dropWhile Ar.numch)) := hid (Ar.M8 HALL.out)
  have hnx : Hid (∀ (h : k < S.size), Ar.numch (S[k]'h) = true → ∀ c ∈ L.take (k + 1), Ar.numch c = true) := hid (fun h hn c hc => by
   rw [BF (HAT.out k h)] at hc;rcases List.mem_append.1 hc with hc | hc
   ·exact HALL.out c hc
   ·rw [List.mem_singleton.1 hc]; exact hn)
  have HTK := hid (HEX.out k hk);have HDK := hid (HEB.out k);have HRI := hid (fun W => K3 (bstr (L.take k)) W (by rw [Ab, List.length_take]; have := HSZ.out; omega));rw [show (bstr (L.take k)).data.toList = L.take k from rfl] at HRI;by_cases hlt : k < S.size
  ·have hci := Ar.Od (S[k]'hlt);have HCI := hid hci;clear hci;by_cases h45 : (S[k]'hlt).toNat = 45
   ·have d1 : (((S[k]'hlt).toNat : Int) == 45) = true := by rw [h45]; rfl
    have HN := hid (hnx.out hlt (HCI.out.2 (.inl h45)));clear h45;go_wp2_with fail
    go_roundw
    case rel => exact ⟨k + 1, by omega, by go_num, by trivial, HN.out⟩
    case measure => simp [RowKit.intOf]; omega
   ·have d1 : (((S[k]'hlt).toNat : Int) == 45) = false := by rw [beq_eq_false_iff_ne]; omega
    by_cases h48 : 48 ≤ (S[k]'hlt).toNat
    ·have d2 : decide ((48 : Int) ≤ ((S[k]'hlt).toNat : Int)) = true := decide_eq_true (by omega);by_cases h57 : (S[k]'hlt).toNat ≤ 57
     ·have d3 : decide (((S[k]'hlt).toNat : Int) ≤ 57) = true := decide_eq_true (by omega);have HN := hid (hnx.out hlt (HCI.out.2 (.inr ⟨h48, h57⟩)));clear h45 h48 h57;go_wp2_with fail
      go_roundw
      case rel => exact ⟨k + 1, by omega, by go_num, by trivial, HN.out⟩
      case measure => simp [RowKit.intOf]; omega
     ·have d3 : decide (((S[k]'hlt).toNat : Int) ≤ 57) = false := decide_eq_false (by omega)
      have HE := hid (hend.out (fun c hc => by
       have h1 := HAT.out k hlt;rw [h1] at hc;injection hc with hc;rw [← hc]
       cases hn : Ar.numch (S[k]'hlt) with
       | false => rfl
       | true => have := HCI.out.1 hn; omega))
      clear h45 h48 h57;have hx1 := HTK.out;have hx2 := HDK.out;generalize hT : L.take k = T at *;generalize hD : L.drop k = D at *;generalize hTB : bstr T = TB at *;generalize hDB : bstr D = DB at *;go_wp2_with fail;refine (HRI.out _).mono ?_;rintro e w2 ⟨hia, hb2⟩;have HB2 := hid hb2;clear hb2;rcases hia with ⟨n, hn, rfl⟩ | ⟨hn, n0, rfl⟩
      ·have HR : Hid (Ar.xnum L = some (n, D)) := hid (by unfold Ar.xnum; rw [← HE.out.1, ← HE.out.2, hn]; rfl);clear hn;go_wp2_with fail
       go_quiet (fail)
       go_wp2_with fail
       go_ret3
       exact ⟨.inl ⟨n, D, HR.out, by rw [hDB]; rfl⟩, below_drewN HB2.out _⟩
      ·have HR : Hid (Ar.xnum L = none) := hid (by unfold Ar.xnum; rw [← HE.out.1, hn]; rfl);clear hn;go_wp2_with fail
       go_ret3
       exact ⟨.inr ⟨HR.out, rfl⟩, HB2.out⟩
    ·have d2 : decide ((48 : Int) ≤ ((S[k]'hlt).toNat : Int)) = false := decide_eq_false (by omega)
     have HE := hid (hend.out (fun c hc => by
      have h1 := HAT.out k hlt;rw [h1] at hc;injection hc with hc;rw [← hc]
      cases hn : Ar.numch (S[k]'hlt) with
      | false => rfl
      | true => have := HCI.out.1 hn; omega))
     clear h45 h48;have hx1 := HTK.out;have hx2 := HDK.out;generalize hT : L.take k = T at *;generalize hD : L.drop k = D at *;generalize hTB : bstr T = TB at *;generalize hDB : bstr D = DB at *;go_wp2_with fail;refine (HRI.out _).mono ?_;rintro e w2 ⟨hia, hb2⟩;have HB2 := hid hb2;clear hb2;rcases hia with ⟨n, hn, rfl⟩ | ⟨hn, n0, rfl⟩
     ·have HR : Hid (Ar.xnum L = some (n, D)) := hid (by unfold Ar.xnum; rw [← HE.out.1, ← HE.out.2, hn]; rfl);clear hn;go_wp2_with fail
      go_quiet (fail)
      go_wp2_with fail
      go_ret3
      exact ⟨.inl ⟨n, D, HR.out, by rw [hDB]; rfl⟩, below_drewN HB2.out _⟩
     ·have HR : Hid (Ar.xnum L = none) := hid (by unfold Ar.xnum; rw [← HE.out.1, hn]; rfl);clear hn;go_wp2_with fail
      go_ret3
      exact ⟨.inr ⟨HR.out, rfl⟩, HB2.out⟩
  ·obtain rfl : k = S.size := by omega
   have HE := hid (hend.out (fun c hc => by
    have h1 := (List.getElem?_eq_some_iff.1 hc).1;have := HSZ.out
    omega))
   have hx1 := HTK.out;have hx2 := HDK.out;generalize hT : L.take S.size = T at *;generalize hD : L.drop S.size = D at *;have hDn : Hid (D = []) := hid (by rw [← hD, List.drop_of_length_le (by have := HSZ.out; omega)]);generalize hTB : bstr T = TB at *;generalize hDB : bstr D = DB at *;go_wp2_with fail;refine (HRI.out _).mono ?_;rintro e w2 ⟨hia, hb2⟩;have HB2 := hid hb2;clear hb2;rcases hia with ⟨n, hn, rfl⟩ | ⟨hn, n0, rfl⟩
   ·have HR : Hid (Ar.xnum L = some (n, D)) := hid (by unfold Ar.xnum; rw [← HE.out.1, ← HE.out.2, hn]; rfl);clear hn;go_wp2_with fail
    go_quiet (fail)
    go_wp2_with fail
    go_ret3
    exact ⟨.inl ⟨n, D, HR.out, by rw [hDn.out]; rfl⟩, below_drewN HB2.out _⟩
   ·have HR : Hid (Ar.xnum L = none) := hid (by unfold Ar.xnum; rw [← HE.out.1, hn]; rfl);clear hn;go_wp2_with fail
    go_ret3
    exact ⟨.inr ⟨HR.out, rfl⟩, HB2.out⟩
end Go.Proofs.YteadlcncnhbmjaaGreatDoor
namespace Ar
theorem Er {s t : Str} {n : Int} (h : xnum s = some (n, t)) : t.length ≤ s.length := by
 unfold xnum at h
 cases hr : rint (s.takeWhile numch) with
 | none => rw [hr] at h; cases h
 | some m =>
  rw [hr] at h;injection h with h;injection h with _ h;rw [← h];exact (List.dropWhile_sublist _).length_le
theorem Dx {s t x : Str} (h : At s = some (x, t)) : t.length ≤ s.length := by
 rw [Bm h, List.length_append];omega
theorem AU {c : UInt8} {s t : Str} (h : xsign c s = some t) : t.length + 1 = s.length := by
 cases s with
 | nil => cases h
 | cons d r =>
  change (if d = c then some r else none) = some t at h;split at h
  ·injection h with h; rw [h]; rfl
  ·cases h
theorem CN {α : Type} {one : Str → Option (α × Str)} {m : Nat} {t : Str} (h : one t = none) : AD one (m + 1) t = none := by
 unfold AD; rw [h]; rfl
theorem Fs {α : Type} {one : Str → Option (α × Str)} {m : Nat} {t r : Str} {x : α} (h : one t = some (x, r)) (h2 : xsign 44 r = none) : AD one (m + 1) t = some ([x], r) := by
 unfold AD; rw [h]; show (match xsign 44 r with | none => some ([x], r) | some q => _) = _; rw [h2]
theorem EF {α : Type} {one : Str → Option (α × Str)} {m : Nat} {t r q : Str} {x : α} (h : one t = some (x, r)) (h2 : xsign 44 r = some q) : AD one (m + 1) t = (AD one m q).map fun p => (x :: p.1, p.2) := by
 rw [AD, h]; show (match xsign 44 r with | none => some ([x], r) | some q => _) = _; rw [h2]
end Ar
namespace Go.Proofs.YteadlcncnhbmjaaGreatDoor
open Go.RowKit Go.Lib
def vlen : Value → Nat
 | .string s => s.size
 | _ => 0
def TxA (o : Option (List UInt8 × List UInt8)) (e : Ending) : Prop := (∃ x r, o = some (x, r) ∧ e = .returned (.tuple #[.string (bstr x), .string (bstr r), .bool true])) ∨ (o = none ∧ e = .returned (.tuple #[.string ⟨#[]⟩, .string ⟨#[]⟩, .bool false]))
theorem DR (t : List UInt8) (w : World) (ht : t.length ≤ 1000000) : Calls Tryz.prog 17 #[.string (bstr t)] w fun e w' => TxA (Ar.At t) e ∧ Below w.heap.size w w' := by
 refine (JS (bstr t) w (by rw [Ab]; exact ht)).mono ?_;rintro e w' ⟨rfl, hb⟩;refine ⟨?_, hb⟩;rw [show (bstr t).data.toList = t from rfl]
 cases h : Ar.At t with
 | none => exact .inr ⟨rfl, rfl⟩
 | some p => exact .inl ⟨p.1, p.2, rfl, rfl⟩
def LsA {α : Type} (row : List α → List Value) (ty : TypeId) (sz base : Nat) (o : Option (List α × List UInt8)) (e : Ending) (w' : World) : Prop :=
 (∃ l t v, o = some (l, t) ∧ e = .returned (.tuple #[v, .string (bstr t), .bool true]) ∧ w'.ownsRow base ty sz v l.length (row l)) ∨ (o = none ∧ e = .returned (.tuple #[.slice none 0 0, .string ⟨#[]⟩, .bool false]))
theorem FT (s : List UInt8) (w : World) (hs : s.length ≤ 1000000) : Calls Tryz.prog 126 #[.string (bstr s)] w fun e w' => LsA intL 3 1 w.heap.size (Ar.xlist Ar.xnum s) e w' ∧ Below w.heap.size w w' := by
 have HO0 : Hid ((w.alloc (.cells #[] 3)).ownsRow w.heap.size 3 1 (.slice (some ⟨w.heap.size, 0, none⟩) 0 0) 0 []) := hid (World.ownsRow_lit (base := w.heap.size) (e := 3) (size := 1) w #[] 0 (Nat.le_refl _) (by decide) rfl);have HB0 := hid ((Below.refl w.heap.size w).alloc (Nat.le_refl _) (.cells #[] 3));go_enter Tryz.func126, Tryz.ntmps126;go_wp2_with fail
 go_loopw [0, 5] (fun sx ox wr => ∃ (m : Nat) (l : List Int) (t : List UInt8), sx = .string (bstr t) ∧ wr.ownsRow w.heap.size 3 1 ox l.length (intL l) ∧ Below w.heap.size w wr ∧ t.length < m ∧ l.length + t.length ≤ s.length ∧ Hid (Ar.AD Ar.xnum (s.length + 1) s = (Ar.AD Ar.xnum m t).map (fun q => (l ++ q.1, q.2)))) (fun sx _ _ => vlen sx)
 case atStart => exact ⟨s.length + 1, [], s, rfl, HO0.out, HB0.out, Nat.lt_succ_self _, by simp, hid (by cases Ar.AD Ar.xnum (s.length + 1) s <;> rfl)⟩
 case round =>
  obtain ⟨m, l, t, rfl, ho, hb, hm, hlt, heq⟩ := hrel;obtain ⟨AO, cO, rfl⟩ := Ax ho
  cases m with
  | zero => exact absurd hm (Nat.not_lt_zero _)
  | succ m =>
   have HO := hid ho;have HB := hid hb;have hbs := hb.size;have HEQ : Hid (Ar.AD Ar.xnum (s.length + 1) s = (Ar.AD Ar.xnum (m + 1) t).map (fun q => (l ++ q.1, q.2))) := heq;have hbt := Ab t;clear ho hb heq;have HC1 := hid (fun W => BV (bstr t) W (by omega));rw [show (bstr t).data.toList = t from rfl] at HC1;generalize hTB : bstr t = TB at *;go_wp2_with fail;refine (HC1.out _).mono ?_;rintro e w2 ⟨hone, hb2⟩;have HB2 := hid (HB.out.trans (hb2.mono hbs));have HO2 := hid (AQ HO.out hb2 (Nat.le_refl _));have HZ2 := hid HB2.out.size;clear hb2;rcases hone with ⟨x, r, hone, rfl⟩ | ⟨hone, rfl⟩
   ·have HRL := hid (Ar.Er hone);have hrl := HRL.out;have HSG := hid (fun W => BO r 44 W (by omega));rw [show (((44 : UInt8).toNat : Nat) : Int) = 44 from rfl] at HSG;have HOK := hid hone;clear hone;generalize hRB : bstr r = RB at *;go_wp2_with (at_builtin; refine Bt Pe rfl _ _ rfl w2 (intL [x]) 1 rfl (MT _) (.slice AO l.length cO) l.length (intL l) w.heap.size rfl HO2.out rfl HZ2.out (by omega) ?_; intro v9 w9 ho9 hg9 hb9; obtain ⟨A9, c9, rfl⟩ := Ax ho9);have HO9 := hid ho9;have HB9 := hid (hb9 _ HB2.out);clear ho9 hg9 hb9;refine (HSG.out _).mono ?_;rintro e wS ⟨hsg, rfl⟩;rcases hsg with ⟨q, hq, rfl⟩ | ⟨hq, rfl⟩
    ·have HQL := hid (Ar.AU hq)
     have HEN : Hid (Ar.AD Ar.xnum (s.length + 1) s = (Ar.AD Ar.xnum m q).map (fun p => ((l ++ [x]) ++ p.1, p.2))) := hid (by
      rw [HEQ.out, Ar.EF HOK.out hq]
      cases Ar.AD Ar.xnum m q with
      | none => rfl
      | some p => show some (l ++ x :: p.1, p.2) = some ((l ++ [x]) ++ p.1, p.2); rw [List.append_assoc]; rfl)
     clear hq;have hql := HQL.out;have hbq := Ab q;go_wp2_with fail
     go_roundw
     case rel =>
      refine ⟨m, l ++ [x], q, rfl, ?_, HB9.out, by omega, by rw [List.length_append, List.length_singleton]; omega, HEN⟩;rw [List.length_append, Fa];exact HO9.out
     case measure => show (bstr q).size < TB.size; rw [← hTB, Ab, Ab]; omega
    ·have HEN : Hid (Ar.AD Ar.xnum (s.length + 1) s = some (l ++ [x], r)) := hid (by rw [HEQ.out, Ar.Fs HOK.out hq]; rfl);clear hq;go_wp2_with fail
     go_ret3
     exact ⟨.inl ⟨l ++ [x], r, .slice A9 (l.length + 1) c9, HEN.out, by rw [hRB]; rfl, by rw [List.length_append, Fa]; exact HO9.out⟩, HB9.out⟩
   ·go_wp2_with fail
    go_ret3
    exact ⟨.inr ⟨by show Ar.AD Ar.xnum (s.length + 1) s = none; rw [HEQ.out, Ar.CN hone]; rfl, rfl⟩, HB2.out⟩
theorem I1 (s : List UInt8) (w : World) (hs : s.length ≤ 1000000) : Calls Tryz.prog 127 #[.string (bstr s)] w fun e w' => LsA strL 9 1 w.heap.size (Ar.xlist Ar.At s) e w' ∧ Below w.heap.size w w' := by
 have HO0 : Hid ((w.alloc (.cells #[] 9)).ownsRow w.heap.size 9 1 (.slice (some ⟨w.heap.size, 0, none⟩) 0 0) 0 []) := hid (World.ownsRow_lit (base := w.heap.size) (e := 9) (size := 1) w #[] 0 (Nat.le_refl _) (by decide) rfl);have HB0 := hid ((Below.refl w.heap.size w).alloc (Nat.le_refl _) (.cells #[] 9));go_enter Tryz.func127, Tryz.ntmps127;go_wp2_with fail
 go_loopw [0, 5] (fun sx ox wr => ∃ (m : Nat) (l : List (List UInt8)) (t : List UInt8), sx = .string (bstr t) ∧ wr.ownsRow w.heap.size 9 1 ox l.length (strL l) ∧ Below w.heap.size w wr ∧ t.length < m ∧ l.length + t.length ≤ s.length ∧ Hid (Ar.AD Ar.At (s.length + 1) s = (Ar.AD Ar.At m t).map (fun q => (l ++ q.1, q.2)))) (fun sx _ _ => vlen sx)
 case atStart => exact ⟨s.length + 1, [], s, rfl, HO0.out, HB0.out, Nat.lt_succ_self _, by simp, hid (by cases Ar.AD Ar.At (s.length + 1) s <;> rfl)⟩
 case round =>
  obtain ⟨m, l, t, rfl, ho, hb, hm, hlt, heq⟩ := hrel;obtain ⟨AO, cO, rfl⟩ := Ax ho
  cases m with
  | zero => exact absurd hm (Nat.not_lt_zero _)
  | succ m =>
   have HO := hid ho;have HB := hid hb;have hbs := hb.size;have HEQ : Hid (Ar.AD Ar.At (s.length + 1) s = (Ar.AD Ar.At (m + 1) t).map (fun q => (l ++ q.1, q.2))) := heq;have hbt := Ab t;clear ho hb heq;have HC1 := hid (fun W => DR t W (by omega));generalize hTB : bstr t = TB at *;go_wp2_with fail;refine (HC1.out _).mono ?_;rintro e w2 ⟨hone, hb2⟩;have HB2 := hid (HB.out.trans (hb2.mono hbs));have HO2 := hid (AQ HO.out hb2 (Nat.le_refl _));have HZ2 := hid HB2.out.size;clear hb2;rcases hone with ⟨x, r, hone, rfl⟩ | ⟨hone, rfl⟩
   ·have HRL := hid (Ar.Dx hone);have hrl := HRL.out;have HSG := hid (fun W => BO r 44 W (by omega));rw [show (((44 : UInt8).toNat : Nat) : Int) = 44 from rfl] at HSG;have HOK := hid hone;clear hone;generalize hRB : bstr r = RB at *;go_wp2_with (at_builtin; refine Bt CD rfl _ _ rfl w2 (strL [x]) 1 rfl (Bx _) (.slice AO l.length cO) l.length (strL l) w.heap.size rfl HO2.out rfl HZ2.out (by omega) ?_; intro v9 w9 ho9 hg9 hb9; obtain ⟨A9, c9, rfl⟩ := Ax ho9);have HO9 := hid ho9;have HB9 := hid (hb9 _ HB2.out);clear ho9 hg9 hb9;refine (HSG.out _).mono ?_;rintro e wS ⟨hsg, rfl⟩;rcases hsg with ⟨q, hq, rfl⟩ | ⟨hq, rfl⟩
    ·have HQL := hid (Ar.AU hq)
     have HEN : Hid (Ar.AD Ar.At (s.length + 1) s = (Ar.AD Ar.At m q).map (fun p => ((l ++ [x]) ++ p.1, p.2))) := hid (by
      rw [HEQ.out, Ar.EF HOK.out hq]
      cases Ar.AD Ar.At m q with
      | none => rfl
      | some p => show some (l ++ x :: p.1, p.2) = some ((l ++ [x]) ++ p.1, p.2); rw [List.append_assoc]; rfl)
     clear hq;have hql := HQL.out;have hbq := Ab q;go_wp2_with fail
     go_roundw
     case rel =>
      refine ⟨m, l ++ [x], q, rfl, ?_, HB9.out, by omega, by rw [List.length_append, List.length_singleton]; omega, HEN⟩;rw [List.length_append, AJ];exact HO9.out
     case measure => show (bstr q).size < TB.size; rw [← hTB, Ab, Ab]; omega
    ·have HEN : Hid (Ar.AD Ar.At (s.length + 1) s = some (l ++ [x], r)) := hid (by rw [HEQ.out, Ar.Fs HOK.out hq]; rfl);clear hq;go_wp2_with fail
     go_ret3
     exact ⟨.inl ⟨l ++ [x], r, .slice A9 (l.length + 1) c9, HEN.out, by rw [hRB]; rfl, by rw [List.length_append, AJ]; exact HO9.out⟩, HB9.out⟩
   ·go_wp2_with fail
    go_ret3
    exact ⟨.inr ⟨by show Ar.AD Ar.At (s.length + 1) s = none; rw [HEQ.out, Ar.CN hone]; rfl, rfl⟩, HB2.out⟩
end Go.Proofs.YteadlcncnhbmjaaGreatDoor
namespace Ar
theorem GE : xnum [] = none := rfl
theorem QH {t : Str} (h : At t = none) : xusr t = none := by unfold xusr; rw [h]; rfl
theorem QN {t x r1 : Str} (h : At t = some (x, r1)) (h2 : xsign 58 r1 = none) : xusr t = none := by
 unfold xusr; rw [h]; show (xsign 58 r1).bind _ = none; rw [h2]; rfl
theorem QG {t x r1 r2 : Str} (h : At t = some (x, r1)) (h2 : xsign 58 r1 = some r2) (h3 : xnum r2 = none) : xusr t = none := by
 unfold xusr; rw [h]; show (xsign 58 r1).bind _ = none; rw [h2]; show (xnum r2).map _ = none; rw [h3]; rfl
theorem RR {t x r1 r2 r3 : Str} {n : Int} (h : At t = some (x, r1)) (h2 : xsign 58 r1 = some r2) (h3 : xnum r2 = some (n, r3)) : xusr t = some ((x, n), r3) := by
 unfold xusr; rw [h]; show (xsign 58 r1).bind _ = _; rw [h2]; show (xnum r2).map _ = _; rw [h3]; rfl
theorem Rq {t : Str} (h : xnum t = none) : xknd t = none := by unfold xknd; rw [h]; rfl
theorem Ro {t r1 : Str} {x : Int} (h : xnum t = some (x, r1)) (h2 : xsign 58 r1 = none) : xknd t = none := by
 unfold xknd; rw [h]; show (xsign 58 r1).bind _ = none; rw [h2]; rfl
theorem Ri {t r1 r2 : Str} {x : Int} (h : xnum t = some (x, r1)) (h2 : xsign 58 r1 = some r2) (h3 : xnum r2 = none) : xknd t = none := by
 unfold xknd; rw [h]; show (xsign 58 r1).bind _ = none; rw [h2]; show (xnum r2).map _ = none; rw [h3]; rfl
theorem RZ {t r1 r2 r3 : Str} {x n : Int} (h : xnum t = some (x, r1)) (h2 : xsign 58 r1 = some r2) (h3 : xnum r2 = some (n, r3)) : xknd t = some ((x, n), r3) := by
 unfold xknd; rw [h]; show (xsign 58 r1).bind _ = _; rw [h2]; show (xnum r2).map _ = _; rw [h3]; rfl
end Ar
namespace Go.Proofs.YteadlcncnhbmjaaGreatDoor
open Go.RowKit Go.Lib
theorem IC (s : List UInt8) (w : World) (hs : s.length ≤ 1000000) : Calls Tryz.prog 128 #[.string (bstr s)] w fun e w' => LsA usrL 77 2 w.heap.size (Ar.xlist Ar.xusr s) e w' ∧ Below w.heap.size w w' := by
 have HO0 : Hid ((w.alloc (.cells #[] 77)).ownsRow w.heap.size 77 2 (.slice (some ⟨w.heap.size, 0, none⟩) 0 0) 0 []) := hid (World.ownsRow_lit (base := w.heap.size) (e := 77) (size := 2) w #[] 0 (Nat.le_refl _) (by decide) rfl);have HB0 := hid ((Below.refl w.heap.size w).alloc (Nat.le_refl _) (.cells #[] 77));go_enter Tryz.func128, Tryz.ntmps128;go_wp2_with fail
 go_loopw [0, 5] (fun sx ox wr => ∃ (m : Nat) (l : List (List UInt8 × Int)) (t : List UInt8), sx = .string (bstr t) ∧ wr.ownsRow w.heap.size 77 2 ox l.length (usrL l) ∧ Below w.heap.size w wr ∧ t.length < m ∧ l.length + t.length ≤ s.length ∧ Hid (Ar.AD Ar.xusr (s.length + 1) s = (Ar.AD Ar.xusr m t).map (fun q => (l ++ q.1, q.2)))) (fun sx _ _ => vlen sx)
 case atStart => exact ⟨s.length + 1, [], s, rfl, HO0.out, HB0.out, Nat.lt_succ_self _, by simp, hid (by cases Ar.AD Ar.xusr (s.length + 1) s <;> rfl)⟩
 case round =>
  obtain ⟨m, l, t, rfl, ho, hb, hm, hlt, heq⟩ := hrel;obtain ⟨AO, cO, rfl⟩ := Ax ho
  cases m with
  | zero => exact absurd hm (Nat.not_lt_zero _)
  | succ m =>
   have HO := hid ho;have HB := hid hb;have hbs := hb.size;have HEQ : Hid (Ar.AD Ar.xusr (s.length + 1) s = (Ar.AD Ar.xusr (m + 1) t).map (fun q => (l ++ q.1, q.2))) := heq;have hbt := Ab t;clear ho hb heq;have HC1 := hid (fun W => DR t W (by omega));generalize hTB : bstr t = TB at *;go_wp2_with fail;refine (HC1.out _).mono ?_;rintro e w2 ⟨hone, hb2⟩;have HB2 := hid (HB.out.trans (hb2.mono hbs));have HO2 := hid (AQ HO.out hb2 (Nat.le_refl _));clear hb2;rcases hone with ⟨x, r1, h1, rfl⟩ | ⟨h1, rfl⟩
   ·have HSG1 := hid (fun W => BO r1 58 W (by have := Ar.Dx h1; omega));rw [show (((58 : UInt8).toNat : Nat) : Int) = 58 from rfl] at HSG1;generalize hR1 : bstr r1 = R1 at *;go_wp2_with fail;refine (HSG1.out _).mono ?_;rintro e w3 ⟨hsg, rfl⟩;rcases hsg with ⟨r2, hs1, rfl⟩ | ⟨hs1, rfl⟩
    ·have HNM := hid (fun W => BV (bstr r2) W (by rw [Ab]; have := Ar.Dx h1; have := Ar.AU hs1; omega));rw [show (bstr r2).data.toList = r2 from rfl] at HNM;generalize hR2 : bstr r2 = R2 at *;go_wp2_with fail;refine (HNM.out _).mono ?_;rintro e w4 ⟨hnm, hb4⟩;have HB4 := hid (HB2.out.trans (hb4.mono HB2.out.size));have HO4 := hid (AQ HO2.out hb4 (Nat.le_refl _));have HZ4 := hid HB4.out.size;clear hb4;rcases hnm with ⟨n, r3, hn1, rfl⟩ | ⟨hn1, rfl⟩
     ·have hone : Ar.xusr t = some ((x, n), r3) := Ar.RR h1 hs1 hn1;have HRL := hid (Nat.le_trans (Ar.Er hn1) (Nat.le_trans (Nat.le_trans (Nat.le_succ _) (Nat.le_of_eq (Ar.AU hs1))) (Ar.Dx h1)));have hrl := HRL.out;have HSG := hid (fun W => BO r3 44 W (by omega));rw [show (((44 : UInt8).toNat : Nat) : Int) = 44 from rfl] at HSG;have HOK := hid hone;clear hone hn1 hs1 h1;generalize hRB : bstr r3 = RB at *;go_wp2_with (at_builtin; refine Bt Kw rfl _ _ rfl w4 (usrL [(x, n)]) 1 rfl (MQ _) (.slice AO l.length cO) l.length (usrL l) w.heap.size rfl HO4.out rfl HZ4.out (by omega) ?_; intro v9 w9 ho9 hg9 hb9; obtain ⟨A9, c9, rfl⟩ := Ax ho9);have HO9 := hid ho9;have HB9 := hid (hb9 _ HB4.out);clear ho9 hg9 hb9;refine (HSG.out _).mono ?_;rintro e wS ⟨hsg, rfl⟩;rcases hsg with ⟨q, hq, rfl⟩ | ⟨hq, rfl⟩
      ·have HQL := hid (Ar.AU hq)
       have HEN : Hid (Ar.AD Ar.xusr (s.length + 1) s = (Ar.AD Ar.xusr m q).map (fun p => ((l ++ [(x, n)]) ++ p.1, p.2))) := hid (by
        rw [HEQ.out, Ar.EF HOK.out hq]
        cases Ar.AD Ar.xusr m q with
        | none => rfl
        | some p => show some (l ++ (x, n) :: p.1, p.2) = some ((l ++ [(x, n)]) ++ p.1, p.2); rw [List.append_assoc]; rfl)
       clear hq;have hql := HQL.out;have hbq := Ab q;go_wp2_with fail
       go_roundw
       case rel =>
        refine ⟨m, l ++ [(x, n)], q, rfl, ?_, HB9.out, by omega, by rw [List.length_append, List.length_singleton]; omega, HEN⟩;rw [List.length_append, Fq];exact HO9.out
       case measure => show (bstr q).size < TB.size; rw [← hTB, Ab, Ab]; omega
      ·have HEN : Hid (Ar.AD Ar.xusr (s.length + 1) s = some (l ++ [(x, n)], r3)) := hid (by rw [HEQ.out, Ar.Fs HOK.out hq]; rfl);clear hq;go_wp2_with fail
       go_ret3
       exact ⟨.inl ⟨l ++ [(x, n)], r3, .slice A9 (l.length + 1) c9, HEN.out, by rw [hRB]; rfl, by rw [List.length_append, Fq]; exact HO9.out⟩, HB9.out⟩
     ·have HNN : Hid (Ar.xusr t = none) := hid (Ar.QG h1 hs1 hn1);go_wp2_with fail
      go_ret3
      exact ⟨.inr ⟨by show Ar.AD Ar.xusr (s.length + 1) s = none; rw [HEQ.out, Ar.CN HNN.out]; rfl, rfl⟩, HB4.out⟩
    ·have HNN : Hid (Ar.xusr t = none) := hid (Ar.QN h1 hs1);have HN0 := hid (fun W => BV ⟨#[]⟩ W (by decide));go_wp2_with fail;refine (HN0.out _).mono ?_;rintro e w4 ⟨hnm, hbn⟩;have HBN := hid (HB2.out.trans (hbn.mono HB2.out.size));clear hbn;rcases hnm with ⟨n0, t0, hn0, _⟩ | ⟨_, rfl⟩
     ·exact absurd hn0 (by intro h; have h' : Ar.xnum [] = some (n0, t0) := h; rw [Ar.GE] at h'; cases h')
     go_wp2_with fail
     go_ret3
     exact ⟨.inr ⟨by show Ar.AD Ar.xusr (s.length + 1) s = none; rw [HEQ.out, Ar.CN HNN.out]; rfl, rfl⟩, HBN.out⟩
   ·have HNN : Hid (Ar.xusr t = none) := hid (Ar.QH h1);clear h1;have HS0 := hid (fun W => BO [] 58 W (by decide));rw [show (((58 : UInt8).toNat : Nat) : Int) = 58 from rfl, show bstr [] = (⟨#[]⟩ : ByteArray) from rfl] at HS0;have HN0 := hid (fun W => BV ⟨#[]⟩ W (by decide));go_wp2_with fail;refine (HS0.out _).mono ?_;rintro e w3 ⟨hsg, rfl⟩;rcases hsg with ⟨q, hq, _⟩ | ⟨_, rfl⟩
    ·cases hq
    go_wp2_with fail;refine (HN0.out _).mono ?_;rintro e w4 ⟨hnm, hbn⟩;have HBN := hid (HB2.out.trans (hbn.mono HB2.out.size));clear hbn;rcases hnm with ⟨n0, t0, hn0, _⟩ | ⟨_, rfl⟩
    ·exact absurd hn0 (by intro h; have h' : Ar.xnum [] = some (n0, t0) := h; rw [Ar.GE] at h'; cases h')
    go_wp2_with fail
    go_ret3
    exact ⟨.inr ⟨by show Ar.AD Ar.xusr (s.length + 1) s = none; rw [HEQ.out, Ar.CN HNN.out]; rfl, rfl⟩, HBN.out⟩
theorem IU (s : List UInt8) (w : World) (hs : s.length ≤ 1000000) : Calls Tryz.prog 129 #[.string (bstr s)] w fun e w' => LsA kndL 211 2 w.heap.size (Ar.xlist Ar.xknd s) e w' ∧ Below w.heap.size w w' := by
 have HO0 : Hid ((w.alloc (.cells #[] 211)).ownsRow w.heap.size 211 2 (.slice (some ⟨w.heap.size, 0, none⟩) 0 0) 0 []) := hid (World.ownsRow_lit (base := w.heap.size) (e := 211) (size := 2) w #[] 0 (Nat.le_refl _) (by decide) rfl);have HB0 := hid ((Below.refl w.heap.size w).alloc (Nat.le_refl _) (.cells #[] 211));go_enter Tryz.func129, Tryz.ntmps129;go_wp2_with fail
 go_loopw [0, 5] (fun sx ox wr => ∃ (m : Nat) (l : List (Int × Int)) (t : List UInt8), sx = .string (bstr t) ∧ wr.ownsRow w.heap.size 211 2 ox l.length (kndL l) ∧ Below w.heap.size w wr ∧ t.length < m ∧ l.length + t.length ≤ s.length ∧ Hid (Ar.AD Ar.xknd (s.length + 1) s = (Ar.AD Ar.xknd m t).map (fun q => (l ++ q.1, q.2)))) (fun sx _ _ => vlen sx)
 case atStart => exact ⟨s.length + 1, [], s, rfl, HO0.out, HB0.out, Nat.lt_succ_self _, by simp, hid (by cases Ar.AD Ar.xknd (s.length + 1) s <;> rfl)⟩
 case round =>
  obtain ⟨m, l, t, rfl, ho, hb, hm, hlt, heq⟩ := hrel;obtain ⟨AO, cO, rfl⟩ := Ax ho
  cases m with
  | zero => exact absurd hm (Nat.not_lt_zero _)
  | succ m =>
   have HO := hid ho;have HB := hid hb;have hbs := hb.size;have HEQ : Hid (Ar.AD Ar.xknd (s.length + 1) s = (Ar.AD Ar.xknd (m + 1) t).map (fun q => (l ++ q.1, q.2))) := heq;have hbt := Ab t;clear ho hb heq;have HC1 := hid (fun W => BV (bstr t) W (by omega));rw [show (bstr t).data.toList = t from rfl] at HC1;generalize hTB : bstr t = TB at *;go_wp2_with fail;refine (HC1.out _).mono ?_;rintro e w2 ⟨hone, hb2⟩;have HB2 := hid (HB.out.trans (hb2.mono hbs));have HO2 := hid (AQ HO.out hb2 (Nat.le_refl _));clear hb2;rcases hone with ⟨x, r1, h1, rfl⟩ | ⟨h1, rfl⟩
   ·have HSG1 := hid (fun W => BO r1 58 W (by have := Ar.Er h1; omega));rw [show (((58 : UInt8).toNat : Nat) : Int) = 58 from rfl] at HSG1;generalize hR1 : bstr r1 = R1 at *;go_wp2_with fail;refine (HSG1.out _).mono ?_;rintro e w3 ⟨hsg, rfl⟩;rcases hsg with ⟨r2, hs1, rfl⟩ | ⟨hs1, rfl⟩
    ·have HNM := hid (fun W => BV (bstr r2) W (by rw [Ab]; have := Ar.Er h1; have := Ar.AU hs1; omega));rw [show (bstr r2).data.toList = r2 from rfl] at HNM;generalize hR2 : bstr r2 = R2 at *;go_wp2_with fail;refine (HNM.out _).mono ?_;rintro e w4 ⟨hnm, hb4⟩;have HB4 := hid (HB2.out.trans (hb4.mono HB2.out.size));have HO4 := hid (AQ HO2.out hb4 (Nat.le_refl _));have HZ4 := hid HB4.out.size;clear hb4;rcases hnm with ⟨n, r3, hn1, rfl⟩ | ⟨hn1, rfl⟩
     ·have hone : Ar.xknd t = some ((x, n), r3) := Ar.RZ h1 hs1 hn1;have HRL := hid (Nat.le_trans (Ar.Er hn1) (Nat.le_trans (Nat.le_trans (Nat.le_succ _) (Nat.le_of_eq (Ar.AU hs1))) (Ar.Er h1)));have hrl := HRL.out;have HSG := hid (fun W => BO r3 44 W (by omega));rw [show (((44 : UInt8).toNat : Nat) : Int) = 44 from rfl] at HSG;have HOK := hid hone;clear hone hn1 hs1 h1;generalize hRB : bstr r3 = RB at *;go_wp2_with (at_builtin; refine Bt MO rfl _ _ rfl w4 (kndL [(x, n)]) 1 rfl (MU _) (.slice AO l.length cO) l.length (kndL l) w.heap.size rfl HO4.out rfl HZ4.out (by omega) ?_; intro v9 w9 ho9 hg9 hb9; obtain ⟨A9, c9, rfl⟩ := Ax ho9);have HO9 := hid ho9;have HB9 := hid (hb9 _ HB4.out);clear ho9 hg9 hb9;refine (HSG.out _).mono ?_;rintro e wS ⟨hsg, rfl⟩;rcases hsg with ⟨q, hq, rfl⟩ | ⟨hq, rfl⟩
      ·have HQL := hid (Ar.AU hq)
       have HEN : Hid (Ar.AD Ar.xknd (s.length + 1) s = (Ar.AD Ar.xknd m q).map (fun p => ((l ++ [(x, n)]) ++ p.1, p.2))) := hid (by
        rw [HEQ.out, Ar.EF HOK.out hq]
        cases Ar.AD Ar.xknd m q with
        | none => rfl
        | some p => show some (l ++ (x, n) :: p.1, p.2) = some ((l ++ [(x, n)]) ++ p.1, p.2); rw [List.append_assoc]; rfl)
       clear hq;have hql := HQL.out;have hbq := Ab q;go_wp2_with fail
       go_roundw
       case rel =>
        refine ⟨m, l ++ [(x, n)], q, rfl, ?_, HB9.out, by omega, by rw [List.length_append, List.length_singleton]; omega, HEN⟩;rw [List.length_append, Fk];exact HO9.out
       case measure => show (bstr q).size < TB.size; rw [← hTB, Ab, Ab]; omega
      ·have HEN : Hid (Ar.AD Ar.xknd (s.length + 1) s = some (l ++ [(x, n)], r3)) := hid (by rw [HEQ.out, Ar.Fs HOK.out hq]; rfl);clear hq;go_wp2_with fail
       go_ret3
       exact ⟨.inl ⟨l ++ [(x, n)], r3, .slice A9 (l.length + 1) c9, HEN.out, by rw [hRB]; rfl, by rw [List.length_append, Fk]; exact HO9.out⟩, HB9.out⟩
     ·have HNN : Hid (Ar.xknd t = none) := hid (Ar.Ri h1 hs1 hn1);go_wp2_with fail
      go_ret3
      exact ⟨.inr ⟨by show Ar.AD Ar.xknd (s.length + 1) s = none; rw [HEQ.out, Ar.CN HNN.out]; rfl, rfl⟩, HB4.out⟩
    ·have HNN : Hid (Ar.xknd t = none) := hid (Ar.Ro h1 hs1);have HN0 := hid (fun W => BV ⟨#[]⟩ W (by decide));go_wp2_with fail;refine (HN0.out _).mono ?_;rintro e w4 ⟨hnm, hbn⟩;have HBN := hid (HB2.out.trans (hbn.mono HB2.out.size));clear hbn;rcases hnm with ⟨n0, t0, hn0, _⟩ | ⟨_, rfl⟩
     ·exact absurd hn0 (by intro h; have h' : Ar.xnum [] = some (n0, t0) := h; rw [Ar.GE] at h'; cases h')
     go_wp2_with fail
     go_ret3
     exact ⟨.inr ⟨by show Ar.AD Ar.xknd (s.length + 1) s = none; rw [HEQ.out, Ar.CN HNN.out]; rfl, rfl⟩, HBN.out⟩
   ·have HNN : Hid (Ar.xknd t = none) := hid (Ar.Rq h1);clear h1;have HS0 := hid (fun W => BO [] 58 W (by decide));rw [show (((58 : UInt8).toNat : Nat) : Int) = 58 from rfl, show bstr [] = (⟨#[]⟩ : ByteArray) from rfl] at HS0;have HN0 := hid (fun W => BV ⟨#[]⟩ W (by decide));go_wp2_with fail;refine (HS0.out _).mono ?_;rintro e w3 ⟨hsg, rfl⟩;rcases hsg with ⟨q, hq, _⟩ | ⟨_, rfl⟩
    ·cases hq
    go_wp2_with fail;refine (HN0.out _).mono ?_;rintro e w4 ⟨hnm, hbn⟩;have HBN := hid (HB2.out.trans (hbn.mono HB2.out.size));clear hbn;rcases hnm with ⟨n0, t0, hn0, _⟩ | ⟨_, rfl⟩
    ·exact absurd hn0 (by intro h; have h' : Ar.xnum [] = some (n0, t0) := h; rw [Ar.GE] at h'; cases h')
    go_wp2_with fail
    go_ret3
    exact ⟨.inr ⟨by show Ar.AD Ar.xknd (s.length + 1) s = none; rw [HEQ.out, Ar.CN HNN.out]; rfl, rfl⟩, HBN.out⟩
end Go.Proofs.YteadlcncnhbmjaaGreatDoor
namespace Ar
theorem GT {s : Str} (h : xsign 32 s = none) : xbn s = none := by unfold xbn; rw [h]; rfl
theorem GM {s u : Str} (h : xsign 32 s = some u) (h2 : xnum u = none) : xbn s = none := by unfold xbn; rw [h]; exact h2
theorem Iw {s u t : Str} {n : Int} (h : xsign 32 s = some u) (h2 : xnum u = some (n, t)) : xbn s = some (n, t) := by unfold xbn; rw [h]; exact h2
theorem PH {s : Str} (h : xbn s = none) : x3 s = none := by unfold x3; rw [h]; rfl
theorem Pn {s t : Str} {a : Int} (h : xbn s = some (a, t)) (h2 : xbn t = none) : x3 s = none := by unfold x3; rw [h, Option.bind_some, h2]; rfl
theorem Qu {s t u : Str} {a b : Int} (h : xbn s = some (a, t)) (h2 : xbn t = some (b, u)) (h3 : xbn u = none) : x3 s = none := by unfold x3; rw [h, Option.bind_some, h2, Option.bind_some, h3]; rfl
theorem Q8 {s t u v : Str} {a b c : Int} (h : xbn s = some (a, t)) (h2 : xbn t = some (b, u)) (h3 : xbn u = some (c, v)) : x3 s = some ((a, b, c), v) := by unfold x3; rw [h, Option.bind_some, h2, Option.bind_some, h3]; rfl
theorem Q2 {s t : Str} {n : Int} (h : xnum s = some (n, t)) : t.length ≤ s.length := by rw [CU h, List.length_append]; omega
theorem LH {s t : Str} {n : Int} (h : xbn s = some (n, t)) : t.length ≤ s.length := by rw [(Gz h).1, List.length_cons, List.length_append]; omega
theorem J1 {s t x : Str} (h : At s = some (x, t)) : t.length ≤ s.length := by rw [Bm h, List.length_append]; omega
end Ar
namespace Go.Proofs.YteadlcncnhbmjaaGreatDoor
open Go.RowKit Go.Lib
theorem Hs (u : List UInt8) (W : World) (hu : u.length ≤ 1000000) : Calls Tryz.prog 130 #[.string (bstr u)] W fun e w' => NmA (Ar.xnum u) e ∧ Below W.heap.size W w' := BV (bstr u) W (by rw [Ab]; exact hu)
theorem Kb (u : List UInt8) (W : World) (hu : u.length ≤ 1000000) : Calls Tryz.prog 96 #[.string (bstr u)] W fun e w' => IntA u e ∧ Below W.heap.size W w' := K3 (bstr u) W (by rw [Ab]; exact hu)
theorem CJ (s : List UInt8) (w : World) (hs : s.length ≤ 1000000) : Calls Tryz.prog 58 #[.string (bstr s), .int .u8 32] w fun e w' => SgA (Ar.xsign 32 s) e ∧ w' = w := BO s 32 w hs
theorem EU {fn : Func} {t u v x y : Tmp} (h : fn.results = #[.tmp t, .tmp u, .tmp v, .tmp x, .tmp y]) (tmps : Array Value) (P : Program) (w : World) :
  (results fn tmps).run P w = .ok (.tuple #[tmps.getD t undef, tmps.getD u undef, tmps.getD v undef, tmps.getD x undef, tmps.getD y undef]) w := by
 simp [results, h]
def X3A (s : List UInt8) (e : Ending) : Prop := (∃ a b c t, Ar.x3 s = some ((a, b, c), t) ∧ e = .returned (.tuple #[.int .i64 a, .int .i64 b, .int .i64 c, .string (bstr t), .bool true])) ∨ (Ar.x3 s = none ∧ ∃ a b c T, e = .returned (.tuple #[.int .i64 a, .int .i64 b, .int .i64 c, .string T, .bool false]))
def T3 (s : List UInt8) (k : Nat) (b : Bool) (T : ByteArray) (a0 a1 a2 : Int) : Prop :=
 (b = false ∧ Ar.x3 s = none ∧ k ≤ 3) ∨ (b = true ∧ ∃ t, T = bstr t ∧ t.length ≤ s.length ∧ ((k = 0 ∧ t = s) ∨ (k = 1 ∧ Ar.xbn s = some (a0, t)) ∨ (k = 2 ∧ ∃ u, Ar.xbn s = some (a0, u) ∧ Ar.xbn u = some (a1, t)) ∨ (k = 3 ∧ Ar.x3 s = some ((a0, a1, a2), t))))
theorem Jn (s : List UInt8) (w : World) (hs : s.length ≤ 100000) : Calls Tryz.prog 200 #[.string (bstr s)] w fun e w' => X3A s e ∧ Below w.heap.size w w' := by
 have HB0 := hid ((Below.refl w.heap.size w).alloc (Nat.le_refl _) (.cells #[.int .i64 0, .int .i64 0, .int .i64 0] 237));have HK0 := hid (Blk.new w 237 #[.int .i64 0, .int .i64 0, .int .i64 0]);go_enter Tryz.func200, Tryz.ntmps200;go_wp2_with fail
 go_loopw [0, 8, 9] (fun sx ox ix wr => ∃ (k : Nat) (b : Bool) (T : ByteArray) (a0 a1 a2 : Int), k ≤ 3 ∧ ix = .int .i64 k ∧ ox = .bool b ∧ sx = .string T ∧ T3 s k b T a0 a1 a2 ∧ Blk wr w.heap.size 237 #[.int .i64 a0, .int .i64 a1, .int .i64 a2] ∧ Below w.heap.size w wr) (fun _ ox ix _ => (3 - (RowKit.intOf ix).toNat))
 case atStart => exact ⟨0, true, _, 0, 0, 0, by omega, rfl, rfl, rfl, .inr ⟨rfl, s, rfl, Nat.le_refl _, .inl ⟨rfl, rfl⟩⟩, HK0.out, HB0.out⟩
 case round =>
  obtain ⟨k, b, T, a0, a1, a2, hk3, rfl, rfl, rfl, ht, hk, hb⟩ := hrel;have HK := hid hk;have HB := hid hb;have HBS := hb.size;have hc0 := hk.cell 0;have hc1 := hk.cell 1;have hc2 := hk.cell 2;have hf0 := hk.frozen 0;have hf1 := hk.frozen 1;have hf2 := hk.frozen 2;rw [show (#[.int .i64 a0, .int .i64 a1, .int .i64 a2] : Array Value)[0]? = some (.int .i64 a0) from rfl] at hc0;rw [show (#[.int .i64 a0, .int .i64 a1, .int .i64 a2] : Array Value)[1]? = some (.int .i64 a1) from rfl] at hc1;rw [show (#[.int .i64 a0, .int .i64 a1, .int .i64 a2] : Array Value)[2]? = some (.int .i64 a2) from rfl] at hc2;clear hk hb;rcases ht with ⟨rfl, hno, _⟩ | ⟨rfl, t, rfl, htl, hst⟩
  ·have HF : Hid (X3A s (.returned (.tuple #[.int .i64 a0, .int .i64 a1, .int .i64 a2, .string T, .bool false]))) := hid (.inr ⟨hno, _, _, _, _, rfl⟩);clear hno;by_cases hlt : k < 3
   ·go_wp2_with fail
    go_quiet (fail)
    go_wp2_with fail
    (try simp only [Exit.inBlock, Exit.then])
    refine bodyPost_ret (EU rfl _ _ _) rfl ?_;exact ⟨HF.out, below_drewN HB.out _⟩
   ·obtain rfl : k = 3 := by omega
    clear hlt;go_wp2_with fail
    go_quiet (fail)
    go_wp2_with fail
    (try simp only [Exit.inBlock, Exit.then])
    refine bodyPost_ret (EU rfl _ _ _) rfl ?_;exact ⟨HF.out, below_drewN HB.out _⟩
  ·rcases hst with ⟨rfl, h0⟩ | ⟨rfl, h1⟩ | ⟨rfl, u, h1, h2⟩ | ⟨rfl, h3⟩
   ·have HSG := hid (fun W => CJ t W (by omega));have HFAIL : Hid (Ar.xbn t = none → Ar.x3 s = none) := hid (fun h => Ar.PH (h0 ▸ h));have HOK : Hid (∀ n v, Ar.xbn t = some (n, v) → T3 s 1 true (bstr v) n a1 a2) := hid (fun n v h => .inr ⟨rfl, v, rfl, Nat.le_trans (Ar.LH h) htl, .inr (.inl ⟨rfl, h0 ▸ h⟩)⟩);clear h0;go_wp2_with fail;refine (HSG.out _).mono ?_;rintro e w2 ⟨hsg, rfl⟩;rcases hsg with ⟨u', hu, rfl⟩ | ⟨hu, rfl⟩
    ·have HNB := hid (fun W => Hs u' W (by have := Ar.AU hu; omega));have HU := hid hu;clear hu;go_wp2_with fail;refine (HNB.out _).mono ?_;rintro e w3 ⟨hnm, hb3⟩;have HB3 := hid (HB.out.trans (hb3.mono HBS));have HK3 := hid (HK.out.below hb3 HK.out.lt);have hc3 := HK3.out.cell 0;have hf3 := HK3.out.frozen 0;rw [show (#[.int .i64 a0, .int .i64 a1, .int .i64 a2] : Array Value)[0]? = some (.int .i64 a0) from rfl] at hc3;clear hb3;rcases hnm with ⟨n, v, hn, rfl⟩ | ⟨hn, rfl⟩
     ·have HT := hid (HOK.out n v (Ar.Iw HU.out hn));have HKS := hid (HK3.out.set_ 0 (.int .i64 n));rw [show (#[.int .i64 a0, .int .i64 a1, .int .i64 a2] : Array Value).setIfInBounds 0 (.int .i64 n) = #[.int .i64 n, .int .i64 a1, .int .i64 a2] from rfl] at HKS;have HBSS := hid (HB3.out.setCell (p := ⟨w.heap.size, 0, none⟩) (Nat.le_refl _) (.int .i64 n));clear hn;go_wp2_with fail
      go_roundw
      case rel => exact ⟨1, true, _, _, _, _, by omega, by go_num, rfl, rfl, HT.out, HKS.out, HBSS.out⟩
      case measure => simp [RowKit.intOf]
     ·have HX := hid (HFAIL.out (Ar.GM HU.out hn));have HKS := hid (HK3.out.set_ 0 (.int .i64 0));rw [show (#[.int .i64 a0, .int .i64 a1, .int .i64 a2] : Array Value).setIfInBounds 0 (.int .i64 0) = #[.int .i64 0, .int .i64 a1, .int .i64 a2] from rfl] at HKS;have HBSS := hid (HB3.out.setCell (p := ⟨w.heap.size, 0, none⟩) (Nat.le_refl _) (.int .i64 0));clear hn;go_wp2_with fail
      go_roundw
      case rel => exact ⟨1, false, _, _, _, _, by omega, by go_num, rfl, rfl, .inl ⟨rfl, HX.out, by omega⟩, HKS.out, HBSS.out⟩
      case measure => simp [RowKit.intOf]
    ·have HX := hid (HFAIL.out (Ar.GT hu));clear hu;go_wp2_with fail
     go_roundw
     case rel => exact ⟨1, false, _, _, _, _, by omega, by go_num, rfl, rfl, .inl ⟨rfl, HX.out, by omega⟩, HK.out, HB.out⟩
     case measure => simp [RowKit.intOf]
   ·have HSG := hid (fun W => CJ t W (by omega));have HFAIL : Hid (Ar.xbn t = none → Ar.x3 s = none) := hid (fun h => Ar.Pn h1 h);have HOK : Hid (∀ n v, Ar.xbn t = some (n, v) → T3 s 2 true (bstr v) a0 n a2) := hid (fun n v h => .inr ⟨rfl, v, rfl, Nat.le_trans (Ar.LH h) htl, .inr (.inr (.inl ⟨rfl, t, h1, h⟩))⟩);clear h1;go_wp2_with fail;refine (HSG.out _).mono ?_;rintro e w2 ⟨hsg, rfl⟩;rcases hsg with ⟨u', hu, rfl⟩ | ⟨hu, rfl⟩
    ·have HNB := hid (fun W => Hs u' W (by have := Ar.AU hu; omega));have HU := hid hu;clear hu;go_wp2_with fail;refine (HNB.out _).mono ?_;rintro e w3 ⟨hnm, hb3⟩;have HB3 := hid (HB.out.trans (hb3.mono HBS));have HK3 := hid (HK.out.below hb3 HK.out.lt);have hc3 := HK3.out.cell 1;have hf3 := HK3.out.frozen 1;rw [show (#[.int .i64 a0, .int .i64 a1, .int .i64 a2] : Array Value)[1]? = some (.int .i64 a1) from rfl] at hc3;clear hb3;rcases hnm with ⟨n, v, hn, rfl⟩ | ⟨hn, rfl⟩
     ·have HT := hid (HOK.out n v (Ar.Iw HU.out hn));have HKS := hid (HK3.out.set_ 1 (.int .i64 n));rw [show (#[.int .i64 a0, .int .i64 a1, .int .i64 a2] : Array Value).setIfInBounds 1 (.int .i64 n) = #[.int .i64 a0, .int .i64 n, .int .i64 a2] from rfl] at HKS;have HBSS := hid (HB3.out.setCell (p := ⟨w.heap.size, 1, none⟩) (Nat.le_refl _) (.int .i64 n));clear hn;go_wp2_with fail
      go_roundw
      case rel => exact ⟨2, true, _, _, _, _, by omega, by go_num, rfl, rfl, HT.out, HKS.out, HBSS.out⟩
      case measure => simp [RowKit.intOf]
     ·have HX := hid (HFAIL.out (Ar.GM HU.out hn));have HKS := hid (HK3.out.set_ 1 (.int .i64 0));rw [show (#[.int .i64 a0, .int .i64 a1, .int .i64 a2] : Array Value).setIfInBounds 1 (.int .i64 0) = #[.int .i64 a0, .int .i64 0, .int .i64 a2] from rfl] at HKS;have HBSS := hid (HB3.out.setCell (p := ⟨w.heap.size, 1, none⟩) (Nat.le_refl _) (.int .i64 0));clear hn;go_wp2_with fail
      go_roundw
      case rel => exact ⟨2, false, _, _, _, _, by omega, by go_num, rfl, rfl, .inl ⟨rfl, HX.out, by omega⟩, HKS.out, HBSS.out⟩
      case measure => simp [RowKit.intOf]
    ·have HX := hid (HFAIL.out (Ar.GT hu));clear hu;go_wp2_with fail
     go_roundw
     case rel => exact ⟨2, false, _, _, _, _, by omega, by go_num, rfl, rfl, .inl ⟨rfl, HX.out, by omega⟩, HK.out, HB.out⟩
     case measure => simp [RowKit.intOf]
   ·have HSG := hid (fun W => CJ t W (by omega));have HFAIL : Hid (Ar.xbn t = none → Ar.x3 s = none) := hid (fun h => Ar.Qu h1 h2 h);have HOK : Hid (∀ n v, Ar.xbn t = some (n, v) → T3 s 3 true (bstr v) a0 a1 n) := hid (fun n v h => .inr ⟨rfl, v, rfl, Nat.le_trans (Ar.LH h) htl, .inr (.inr (.inr ⟨rfl, Ar.Q8 h1 h2 h⟩))⟩);clear h1 h2;go_wp2_with fail;refine (HSG.out _).mono ?_;rintro e w2 ⟨hsg, rfl⟩;rcases hsg with ⟨u', hu, rfl⟩ | ⟨hu, rfl⟩
    ·have HNB := hid (fun W => Hs u' W (by have := Ar.AU hu; omega));have HU := hid hu;clear hu;go_wp2_with fail;refine (HNB.out _).mono ?_;rintro e w3 ⟨hnm, hb3⟩;have HB3 := hid (HB.out.trans (hb3.mono HBS));have HK3 := hid (HK.out.below hb3 HK.out.lt);have hc3 := HK3.out.cell 2;have hf3 := HK3.out.frozen 2;rw [show (#[.int .i64 a0, .int .i64 a1, .int .i64 a2] : Array Value)[2]? = some (.int .i64 a2) from rfl] at hc3;clear hb3;rcases hnm with ⟨n, v, hn, rfl⟩ | ⟨hn, rfl⟩
     ·have HT := hid (HOK.out n v (Ar.Iw HU.out hn));have HKS := hid (HK3.out.set_ 2 (.int .i64 n));rw [show (#[.int .i64 a0, .int .i64 a1, .int .i64 a2] : Array Value).setIfInBounds 2 (.int .i64 n) = #[.int .i64 a0, .int .i64 a1, .int .i64 n] from rfl] at HKS;have HBSS := hid (HB3.out.setCell (p := ⟨w.heap.size, 2, none⟩) (Nat.le_refl _) (.int .i64 n));clear hn;go_wp2_with fail
      go_roundw
      case rel => exact ⟨3, true, _, _, _, _, by omega, by go_num, rfl, rfl, HT.out, HKS.out, HBSS.out⟩
      case measure => simp [RowKit.intOf]
     ·have HX := hid (HFAIL.out (Ar.GM HU.out hn));have HKS := hid (HK3.out.set_ 2 (.int .i64 0));rw [show (#[.int .i64 a0, .int .i64 a1, .int .i64 a2] : Array Value).setIfInBounds 2 (.int .i64 0) = #[.int .i64 a0, .int .i64 a1, .int .i64 0] from rfl] at HKS;have HBSS := hid (HB3.out.setCell (p := ⟨w.heap.size, 2, none⟩) (Nat.le_refl _) (.int .i64 0));clear hn;go_wp2_with fail
      go_roundw
      case rel => exact ⟨3, false, _, _, _, _, by omega, by go_num, rfl, rfl, .inl ⟨rfl, HX.out, by omega⟩, HKS.out, HBSS.out⟩
      case measure => simp [RowKit.intOf]
    ·have HX := hid (HFAIL.out (Ar.GT hu));clear hu;go_wp2_with fail
     go_roundw
     case rel => exact ⟨3, false, _, _, _, _, by omega, by go_num, rfl, rfl, .inl ⟨rfl, HX.out, by omega⟩, HK.out, HB.out⟩
     case measure => simp [RowKit.intOf]
   ·have HF : Hid (X3A s (.returned (.tuple #[.int .i64 a0, .int .i64 a1, .int .i64 a2, .string (bstr t), .bool true]))) := hid (.inl ⟨_, _, _, _, h3, rfl⟩);clear h3;generalize bstr t = T at *;go_wp2_with fail
    go_quiet (fail)
    go_wp2_with fail
    (try simp only [Exit.inBlock, Exit.then])
    refine bodyPost_ret (EU rfl _ _ _) rfl ?_;exact ⟨HF.out, below_drewN HB.out _⟩
end Go.Proofs.YteadlcncnhbmjaaGreatDoor
namespace Ar
theorem EH (sep : Str) : ∀ (l : List Str) (x : Str), l ≠ [] → join sep (l ++ [x]) = join sep l ++ sep ++ x
 | [], x, h => absurd rfl h
 | [a], x, _ => rfl
 | a :: b :: r, x, _ => by
  have ih := EH sep (b :: r) x (by simp);show a ++ sep ++ join sep ((b :: r) ++ [x]) = a ++ sep ++ join sep (b :: r) ++ sep ++ x;rw [ih];simp
theorem IA (sep : Str) : ∀ (b a : List Str), (join sep a).length ≤ (join sep (a ++ b)).length
 | [], a => by simp
 | x :: b, a => by
  have ih := IA sep b (a ++ [x]);rw [List.append_assoc, List.singleton_append] at ih;refine Nat.le_trans ?_ ih;by_cases h : a = []
  ·subst h; exact Nat.zero_le _
  ·rw [EH sep a x h]; simp only [List.length_append]; omega
theorem Nt (sep : Str) (l : List Str) (k : Nat) : (join sep (l.take k)).length ≤ (join sep l).length := by
 have := IA sep (l.drop k) (l.take k);rwa [List.take_append_drop] at this
end Ar
namespace Go.Proofs.YteadlcncnhbmjaaGreatDoor
open Go.RowKit Go.Lib
theorem C1 {α : Type} (tx : α → List UInt8) (l : List α) (k : Nat) (x : α) (h : l[k]? = some x) (hk : k ≠ 0) : Ar.join [44] ((l.take (k + 1)).map tx) = Ar.join [44] ((l.take k).map tx) ++ [44] ++ tx x := by
 rw [AZ h];refine Ar.EH _ _ _ (fun e => ?_);have h1 := congrArg List.length e;have h2 := (List.getElem?_eq_some_iff.1 h).1;rw [List.length_map, List.length_take] at h1;simp only [List.length_nil] at h1;omega
theorem C4 {α : Type} (tx : α → List UInt8) (l : List α) (x : α) (h : l[0]? = some x) : Ar.join [44] ((l.take (0 + 1)).map tx) = tx x := by
 rw [AZ h];rfl
theorem EW {α : Type} (tx : α → List UInt8) (l : List α) (M : Nat) (h : (Ar.join [44] (l.map tx)).length ≤ M) (k : Nat) : (Ar.join [44] ((l.take k).map tx)).length ≤ M := by
 rw [List.map_take];exact Nat.le_trans (Ar.Nt _ _ _) h
theorem Hx (x : ByteArray) : (⟨#[]⟩ : ByteArray) ++ x = x := Bg (by simp)
theorem Fz (x y : List UInt8) : bstr x ++ (⟨#[44]⟩ : ByteArray) ++ bstr y = bstr (x ++ [44] ++ y) := Bg (by simp [bstr])
theorem Id (a b c d e : ByteArray) : Value.string (a ++ b ++ c ++ d ++ e) = Value.string (a ++ b ++ (c ++ d ++ e)) := by
 congr 1
 exact Bg (by simp)
theorem JF (A : Option Addr) (cap : Nat) (xs : List Int) (w : World) (hR : Rd w A xs.length (intL xs)) (hx : ∀ x ∈ xs, Ar.inInt x) (hl : xs.length ≤ 1000000) (hj : (Ar.join [44] (xs.map Ar.itoa)).length ≤ 100000000) :
  Calls Tryz.prog 117 #[.slice A xs.length cap] w fun e w' => e = .returned (.string (bstr (Ar.join [44] (xs.map Ar.itoa)))) ∧ Below w.heap.size w w' := by
 have HR := hid hR;have HX := hid hx;have HJ := hid (EW Ar.itoa xs _ hj);clear hR hx hj;go_enter Tryz.func117, Tryz.ntmps117;go_wp2_with fail
 go_loopw [3, 4] (fun out ix wr => ∃ k : Nat, k ≤ xs.length ∧ ix = .int .i64 k ∧ out = .string (bstr (Ar.join [44] ((xs.take k).map Ar.itoa))) ∧ Below w.heap.size w wr) (fun _ ix _ => xs.length - (RowKit.intOf ix).toNat)
 case atStart => exact ⟨0, by omega, rfl, rfl, Below.refl _ _⟩
 case round =>
  obtain ⟨k, hk, rfl, rfl, hb⟩ := hrel;have HB := hid hb;have hbs := hb.size;clear hb;by_cases hlt : k < xs.length
  ·obtain ⟨ba, oa, x, rfl, hx, hc0⟩ := (HR.out.below HB.out).int_at hlt;have HXK := hid hx;have HXO := hid (HX.out x (List.mem_of_getElem? hx));have hq0 : (bstr (Ar.join [44] ((xs.take k).map Ar.itoa))).size ≤ 100000000 := by rw [Ab]; exact HJ.out k
   have HQ2 : Hid ((Ar.itoa x).length ≤ 100000000) := hid (by
    have h1 := HJ.out (k + 1);rcases Nat.eq_zero_or_pos k with e0 | e0
    ·subst e0; rw [C4 _ _ _ HXK.out] at h1; exact h1
    ·rw [C1 _ _ _ _ HXK.out (by omega)] at h1; simp only [List.length_append] at h1; omega)
   have hp1 : (bstr (Ar.itoa x)).size ≤ 100000000 := by rw [Ab]; exact HQ2.out
   have hs2 : ¬ 9223372036854775807 < (bstr (Ar.join [44] ((xs.take k).map Ar.itoa))).size + 1 + (bstr (Ar.itoa x)).size := by omega
   clear hx;rcases Nat.eq_zero_or_pos k with e0 | e0
   ·subst e0;have HN := hid (C4 Ar.itoa xs x HXK.out);have hz : (bstr (Ar.join [44] ((xs.take 0).map Ar.itoa))) = ⟨#[]⟩ := rfl;rw [hz];have hz0 : (⟨#[]⟩ : ByteArray).size = 0 := rfl;simp only [Nat.add_zero] at hc0;have HC1 := hid (fun W => Cw x W HXO.out);generalize hP1 : bstr (Ar.itoa x) = P1 at *;go_wp2_with fail;refine (HC1.out _).mono ?_;rintro e w2 ⟨rfl, hb2⟩;have HB2 := hid (HB.out.trans (hb2.mono hbs));clear hb2;go_wp2_with fail
    go_roundw
    case rel => exact ⟨0 + 1, by omega, by go_num, by rw [HN.out, hP1, Hx], HB2.out⟩
    case measure => simp [RowKit.intOf]; omega
   ·have HN := hid (C1 Ar.itoa xs k x HXK.out (by omega));have hpos : (0 : Int) < (k : Int) := by omega
    have hq1 : ¬ 9223372036854775807 < (bstr (Ar.join [44] ((xs.take k).map Ar.itoa))).size + 1 := by omega
    have HCM := hid (Fz (Ar.join [44] ((xs.take k).map Ar.itoa)) (Ar.itoa x));generalize hJK : bstr (Ar.join [44] ((xs.take k).map Ar.itoa)) = JK at *;have HC1 := hid (fun W => Cw x W HXO.out);generalize hP1 : bstr (Ar.itoa x) = P1 at *;go_wp2_with fail;refine (HC1.out _).mono ?_;rintro e w2 ⟨rfl, hb2⟩;have HB2 := hid (HB.out.trans (hb2.mono hbs));clear hb2;go_wp2_with fail
    go_roundw
    case rel => exact ⟨k + 1, by omega, by go_num, by rw [HN.out, ← HCM.out], HB2.out⟩
    case measure => simp [RowKit.intOf]; omega
  ·obtain rfl : k = xs.length := by omega
   have HE : Hid ((xs.take xs.length).map Ar.itoa = xs.map Ar.itoa) := hid (by rw [List.take_length]);rw [HE.out];go_wp2_with fail;go_ret;exact ⟨rfl, HB.out⟩
theorem IV (A : Option Addr) (cap : Nat) (xs : List (List UInt8)) (w : World) (hR : Rd w A xs.length (strL xs)) (hx : ∀ x ∈ xs, x.length ≤ 1000000) (hl : xs.length ≤ 1000000) (hj : (Ar.join [44] (xs.map Ar.quote)).length ≤ 100000000) :
  Calls Tryz.prog 118 #[.slice A xs.length cap] w fun e w' => e = .returned (.string (bstr (Ar.join [44] (xs.map Ar.quote)))) ∧ Below w.heap.size w w' := by
 have HR := hid hR;have HX := hid hx;have HJ := hid (EW Ar.quote xs _ hj);clear hR hx hj;go_enter Tryz.func118, Tryz.ntmps118;go_wp2_with fail
 go_loopw [3, 4] (fun out ix wr => ∃ k : Nat, k ≤ xs.length ∧ ix = .int .i64 k ∧ out = .string (bstr (Ar.join [44] ((xs.take k).map Ar.quote))) ∧ Below w.heap.size w wr) (fun _ ix _ => xs.length - (RowKit.intOf ix).toNat)
 case atStart => exact ⟨0, by omega, rfl, rfl, Below.refl _ _⟩
 case round =>
  obtain ⟨k, hk, rfl, rfl, hb⟩ := hrel;have HB := hid hb;have hbs := hb.size;clear hb;by_cases hlt : k < xs.length
  ·obtain ⟨ba, oa, x, rfl, hx, hc0⟩ := (HR.out.below HB.out).str_at hlt;have HXK := hid hx;have HXO := hid (HX.out x (List.mem_of_getElem? hx));have hq0 : (bstr (Ar.join [44] ((xs.take k).map Ar.quote))).size ≤ 100000000 := by rw [Ab]; exact HJ.out k
   have HQ2 : Hid ((Ar.quote x).length ≤ 100000000) := hid (by
    have h1 := HJ.out (k + 1);rcases Nat.eq_zero_or_pos k with e0 | e0
    ·subst e0; rw [C4 _ _ _ HXK.out] at h1; exact h1
    ·rw [C1 _ _ _ _ HXK.out (by omega)] at h1; simp only [List.length_append] at h1; omega)
   have hp1 : (bstr (Ar.quote x)).size ≤ 100000000 := by rw [Ab]; exact HQ2.out
   have hs2 : ¬ 9223372036854775807 < (bstr (Ar.join [44] ((xs.take k).map Ar.quote))).size + 1 + (bstr (Ar.quote x)).size := by omega
   clear hx;rcases Nat.eq_zero_or_pos k with e0 | e0
   ·subst e0;have HN := hid (C4 Ar.quote xs x HXK.out);have hz : (bstr (Ar.join [44] ((xs.take 0).map Ar.quote))) = ⟨#[]⟩ := rfl;rw [hz];have hz0 : (⟨#[]⟩ : ByteArray).size = 0 := rfl;simp only [Nat.add_zero] at hc0;have HC1 := hid (fun W => DT (bstr x) W (by rw [Ab]; exact HXO.out));rw [show (bstr x).data.toList = x from rfl] at HC1;generalize hP1 : bstr (Ar.quote x) = P1 at *;generalize bstr x = S0 at *;go_wp2_with fail;refine (HC1.out _).mono ?_;rintro e w2 ⟨rfl, hb2⟩;have HB2 := hid (HB.out.trans (hb2.mono hbs));clear hb2;go_wp2_with fail
    go_roundw
    case rel => exact ⟨0 + 1, by omega, by go_num, by rw [HN.out, hP1, Hx], HB2.out⟩
    case measure => simp [RowKit.intOf]; omega
   ·have HN := hid (C1 Ar.quote xs k x HXK.out (by omega));have hpos : (0 : Int) < (k : Int) := by omega
    have hq1 : ¬ 9223372036854775807 < (bstr (Ar.join [44] ((xs.take k).map Ar.quote))).size + 1 := by omega
    have HCM := hid (Fz (Ar.join [44] ((xs.take k).map Ar.quote)) (Ar.quote x));generalize hJK : bstr (Ar.join [44] ((xs.take k).map Ar.quote)) = JK at *;have HC1 := hid (fun W => DT (bstr x) W (by rw [Ab]; exact HXO.out));rw [show (bstr x).data.toList = x from rfl] at HC1;generalize hP1 : bstr (Ar.quote x) = P1 at *;generalize bstr x = S0 at *;go_wp2_with fail;refine (HC1.out _).mono ?_;rintro e w2 ⟨rfl, hb2⟩;have HB2 := hid (HB.out.trans (hb2.mono hbs));clear hb2;go_wp2_with fail
    go_roundw
    case rel => exact ⟨k + 1, by omega, by go_num, by rw [HN.out, ← HCM.out], HB2.out⟩
    case measure => simp [RowKit.intOf]; omega
  ·obtain rfl : k = xs.length := by omega
   have HE : Hid ((xs.take xs.length).map Ar.quote = xs.map Ar.quote) := hid (by rw [List.take_length]);rw [HE.out];go_wp2_with fail;go_ret;exact ⟨rfl, HB.out⟩
theorem LF (A : Option Addr) (cap : Nat) (xs : List (List UInt8 × Int)) (w : World) (hR : Rd w A (xs.length * 2) (usrL xs)) (hx : ∀ x ∈ xs, x.1.length ≤ 1000000 ∧ Ar.inInt x.2) (hl : xs.length ≤ 1000000) (hj : (Ar.join [44] (xs.map Ar.usrT)).length ≤ 100000000) :
  Calls Tryz.prog 119 #[.slice A xs.length cap] w fun e w' => e = .returned (.string (bstr (Ar.join [44] (xs.map Ar.usrT)))) ∧ Below w.heap.size w w' := by
 have HR := hid hR;have HX := hid hx;have HJ := hid (EW Ar.usrT xs _ hj);clear hR hx hj;go_enter Tryz.func119, Tryz.ntmps119;go_wp2_with fail
 go_loopw [3, 4] (fun out ix wr => ∃ k : Nat, k ≤ xs.length ∧ ix = .int .i64 k ∧ out = .string (bstr (Ar.join [44] ((xs.take k).map Ar.usrT))) ∧ Below w.heap.size w wr) (fun _ ix _ => xs.length - (RowKit.intOf ix).toNat)
 case atStart => exact ⟨0, by omega, rfl, rfl, Below.refl _ _⟩
 case round =>
  obtain ⟨k, hk, rfl, rfl, hb⟩ := hrel;have HB := hid hb;have hbs := hb.size;clear hb;by_cases hlt : k < xs.length
  ·obtain ⟨ba, oa, x, rfl, hx, hc0, hc1⟩ := (HR.out.below HB.out).usr_at hlt;have HXK := hid hx;have HXO := hid (HX.out x (List.mem_of_getElem? hx));have hq0 : (bstr (Ar.join [44] ((xs.take k).map Ar.usrT))).size ≤ 100000000 := by rw [Ab]; exact HJ.out k
   have HQ2 : Hid ((Ar.usrT x).length ≤ 100000000) := hid (by
    have h1 := HJ.out (k + 1);rcases Nat.eq_zero_or_pos k with e0 | e0
    ·subst e0; rw [C4 _ _ _ HXK.out] at h1; exact h1
    ·rw [C1 _ _ _ _ HXK.out (by omega)] at h1; simp only [List.length_append] at h1; omega)
   have hp12 : (bstr (Ar.quote x.1)).size + 1 + (bstr (Ar.itoa x.2)).size ≤ 100000000 := by have h1 := HQ2.out; rw [Ab, Ab]; simp only [Ar.usrT, List.length_append, List.length_cons] at h1; omega
   have HUT := hid (MX x.1 x.2);have hs00 : ¬ 9223372036854775807 < (bstr (Ar.quote x.1)).size := by omega
   have hs0 : ¬ 9223372036854775807 < (bstr (Ar.quote x.1)).size + 1 := by omega
   have hs1 : ¬ 9223372036854775807 < (bstr (Ar.quote x.1)).size + 1 + (bstr (Ar.itoa x.2)).size := by omega
   have hs2 : ¬ 9223372036854775807 < (bstr (Ar.join [44] ((xs.take k).map Ar.usrT))).size + 1 + (bstr (Ar.quote x.1)).size := by omega
   have hs3 : ¬ 9223372036854775807 < (bstr (Ar.join [44] ((xs.take k).map Ar.usrT))).size + 1 + (bstr (Ar.quote x.1)).size + 1 := by omega
   have hs4 : ¬ 9223372036854775807 < (bstr (Ar.join [44] ((xs.take k).map Ar.usrT))).size + 1 + (bstr (Ar.quote x.1)).size + 1 + (bstr (Ar.itoa x.2)).size := by omega
   clear hx;obtain ⟨s0, n⟩ := x;simp only at *;rcases Nat.eq_zero_or_pos k with e0 | e0
   ·subst e0;have HN := hid (C4 Ar.usrT xs (s0, n) HXK.out);have hz : (bstr (Ar.join [44] ((xs.take 0).map Ar.usrT))) = ⟨#[]⟩ := rfl;rw [hz];have hz0 : (⟨#[]⟩ : ByteArray).size = 0 := rfl;simp only [Nat.zero_mul, Nat.add_zero] at hc0 hc1;have HC1 := hid (fun W => DT (bstr s0) W (by rw [Ab]; exact HXO.out.1));have HC2 := hid (fun W => Cw n W HXO.out.2);rw [show (bstr s0).data.toList = s0 from rfl] at HC1;generalize hP1 : bstr (Ar.quote s0) = P1 at *;generalize hP2 : bstr (Ar.itoa n) = P2 at *;generalize bstr s0 = S0 at *;have hB := HB.out;have hzz : (⟨#[58]⟩ : ByteArray).size = 1 := rfl;go_wp2_with fail
    go_region_held3 (fun W => W.cell? ⟨ba, oa, none⟩ = some (.string S0) ∧ W.cell? ⟨ba, oa + 1, none⟩ = some (.int .i64 n) ∧ Below w.heap.size w W) (first | with_reducible exact ⟨hc0, hc1, hB⟩ | with_reducible exact ⟨AA hc0, AA hc1, hB.drew⟩ | (go_split_ands; with_reducible exact ⟨Cg (by assumption) (by assumption), Cg (by assumption) (by assumption), DV (by assumption) (by assumption)⟩)) (first | (go_at_call_of 16 (Value.string S0); refine (HC1.out _).mono ?_; rintro e wA ⟨rfl, hbA⟩; replace hbA : Nx _ _ := hbA) | (go_at_call_of 122 (Value.int .i64 n); refine (HC2.out _).mono ?_; rintro e wB ⟨rfl, hbB⟩; replace hbB : Nx _ _ := hbB))
    all_goals
     go_wp2_with fail
     go_roundw
     case rel => go_split_ands; exact ⟨0 + 1, by omega, by go_num, by rw [HN.out, ← HUT.out, Hx], by assumption⟩
     case measure => simp [RowKit.intOf]; omega
   ·have HN := hid (C1 Ar.usrT xs k (s0, n) HXK.out (by omega));have hpos : (0 : Int) < (k : Int) := by omega
    have hq1 : ¬ 9223372036854775807 < (bstr (Ar.join [44] ((xs.take k).map Ar.usrT))).size + 1 := by omega
    have HCM := hid (Fz (Ar.join [44] ((xs.take k).map Ar.usrT)) (Ar.usrT (s0, n)));generalize hJK : bstr (Ar.join [44] ((xs.take k).map Ar.usrT)) = JK at *;have HC1 := hid (fun W => DT (bstr s0) W (by rw [Ab]; exact HXO.out.1));have HC2 := hid (fun W => Cw n W HXO.out.2);rw [show (bstr s0).data.toList = s0 from rfl] at HC1;generalize hP1 : bstr (Ar.quote s0) = P1 at *;generalize hP2 : bstr (Ar.itoa n) = P2 at *;generalize bstr s0 = S0 at *;have hB := HB.out;have hzz : (⟨#[58]⟩ : ByteArray).size = 1 := rfl;go_wp2_with fail
    go_region_held3 (fun W => W.cell? ⟨ba, oa + k * 2, none⟩ = some (.string S0) ∧ W.cell? ⟨ba, oa + k * 2 + 1, none⟩ = some (.int .i64 n) ∧ Below w.heap.size w W) (first | with_reducible exact ⟨hc0, hc1, hB⟩ | with_reducible exact ⟨AA hc0, AA hc1, hB.drew⟩ | (go_split_ands; with_reducible exact ⟨Cg (by assumption) (by assumption), Cg (by assumption) (by assumption), DV (by assumption) (by assumption)⟩)) (first | (go_at_call_of 16 (Value.string S0); refine (HC1.out _).mono ?_; rintro e wA ⟨rfl, hbA⟩; replace hbA : Nx _ _ := hbA) | (go_at_call_of 122 (Value.int .i64 n); refine (HC2.out _).mono ?_; rintro e wB ⟨rfl, hbB⟩; replace hbB : Nx _ _ := hbB))
    all_goals
     go_wp2_with fail
     go_roundw
     case rel => go_split_ands; exact ⟨k + 1, by omega, by go_num, by rw [HN.out, ← HCM.out, ← HUT.out]; exact Id _ _ _ _ _, by assumption⟩
     case measure => simp [RowKit.intOf]; omega
  ·obtain rfl : k = xs.length := by omega
   have HE : Hid ((xs.take xs.length).map Ar.usrT = xs.map Ar.usrT) := hid (by rw [List.take_length]);rw [HE.out];go_wp2_with fail;go_ret;exact ⟨rfl, HB.out⟩
theorem LR (A : Option Addr) (cap : Nat) (xs : List (Int × Int)) (w : World) (hR : Rd w A (xs.length * 2) (kndL xs)) (hx : ∀ x ∈ xs, Ar.inInt x.1 ∧ Ar.inInt x.2) (hl : xs.length ≤ 1000000) (hj : (Ar.join [44] (xs.map Ar.kndT)).length ≤ 100000000) :
  Calls Tryz.prog 120 #[.slice A xs.length cap] w fun e w' => e = .returned (.string (bstr (Ar.join [44] (xs.map Ar.kndT)))) ∧ Below w.heap.size w w' := by
 have HR := hid hR;have HX := hid hx;have HJ := hid (EW Ar.kndT xs _ hj);clear hR hx hj;go_enter Tryz.func120, Tryz.ntmps120;go_wp2_with fail
 go_loopw [3, 4] (fun out ix wr => ∃ k : Nat, k ≤ xs.length ∧ ix = .int .i64 k ∧ out = .string (bstr (Ar.join [44] ((xs.take k).map Ar.kndT))) ∧ Below w.heap.size w wr) (fun _ ix _ => xs.length - (RowKit.intOf ix).toNat)
 case atStart => exact ⟨0, by omega, rfl, rfl, Below.refl _ _⟩
 case round =>
  obtain ⟨k, hk, rfl, rfl, hb⟩ := hrel;have HB := hid hb;have hbs := hb.size;clear hb;by_cases hlt : k < xs.length
  ·obtain ⟨ba, oa, x, rfl, hx, hc0, hc1⟩ := (HR.out.below HB.out).knd_at hlt;have HXK := hid hx;have HXO := hid (HX.out x (List.mem_of_getElem? hx));have hq0 : (bstr (Ar.join [44] ((xs.take k).map Ar.kndT))).size ≤ 100000000 := by rw [Ab]; exact HJ.out k
   have HQ2 : Hid ((Ar.kndT x).length ≤ 100000000) := hid (by
    have h1 := HJ.out (k + 1);rcases Nat.eq_zero_or_pos k with e0 | e0
    ·subst e0; rw [C4 _ _ _ HXK.out] at h1; exact h1
    ·rw [C1 _ _ _ _ HXK.out (by omega)] at h1; simp only [List.length_append] at h1; omega)
   have hp12 : (bstr (Ar.itoa x.1)).size + 1 + (bstr (Ar.itoa x.2)).size ≤ 100000000 := by have h1 := HQ2.out; rw [Ab, Ab]; simp only [Ar.kndT, List.length_append, List.length_cons] at h1; omega
   have HUT := hid (MR x.1 x.2);have hs00 : ¬ 9223372036854775807 < (bstr (Ar.itoa x.1)).size := by omega
   have hs0 : ¬ 9223372036854775807 < (bstr (Ar.itoa x.1)).size + 1 := by omega
   have hs1 : ¬ 9223372036854775807 < (bstr (Ar.itoa x.1)).size + 1 + (bstr (Ar.itoa x.2)).size := by omega
   have hs2 : ¬ 9223372036854775807 < (bstr (Ar.join [44] ((xs.take k).map Ar.kndT))).size + 1 + (bstr (Ar.itoa x.1)).size := by omega
   have hs3 : ¬ 9223372036854775807 < (bstr (Ar.join [44] ((xs.take k).map Ar.kndT))).size + 1 + (bstr (Ar.itoa x.1)).size + 1 := by omega
   have hs4 : ¬ 9223372036854775807 < (bstr (Ar.join [44] ((xs.take k).map Ar.kndT))).size + 1 + (bstr (Ar.itoa x.1)).size + 1 + (bstr (Ar.itoa x.2)).size := by omega
   clear hx;obtain ⟨m, n⟩ := x;simp only at *;rcases Nat.eq_zero_or_pos k with e0 | e0
   ·subst e0;have HN := hid (C4 Ar.kndT xs (m, n) HXK.out);have hz : (bstr (Ar.join [44] ((xs.take 0).map Ar.kndT))) = ⟨#[]⟩ := rfl;rw [hz];have hz0 : (⟨#[]⟩ : ByteArray).size = 0 := rfl;simp only [Nat.zero_mul, Nat.add_zero] at hc0 hc1;have HC1 := hid (fun W => Cw m W HXO.out.1);have HC2 := hid (fun W => Cw n W HXO.out.2);generalize hP1 : bstr (Ar.itoa m) = P1 at *;generalize hP2 : bstr (Ar.itoa n) = P2 at *;have hB := HB.out;have hzz : (⟨#[58]⟩ : ByteArray).size = 1 := rfl;go_wp2_with fail
    go_region_held3 (fun W => W.cell? ⟨ba, oa, none⟩ = some (.int .i64 m) ∧ W.cell? ⟨ba, oa + 1, none⟩ = some (.int .i64 n) ∧ Below w.heap.size w W) (first | with_reducible exact ⟨hc0, hc1, hB⟩ | with_reducible exact ⟨AA hc0, AA hc1, hB.drew⟩ | (go_split_ands; with_reducible exact ⟨Cg (by assumption) (by assumption), Cg (by assumption) (by assumption), DV (by assumption) (by assumption)⟩)) (first | (go_at_call_of 122 (Value.int .i64 m); refine (HC1.out _).mono ?_; rintro e wA ⟨rfl, hbA⟩; replace hbA : Nx _ _ := hbA) | (go_at_call_of 122 (Value.int .i64 n); refine (HC2.out _).mono ?_; rintro e wB ⟨rfl, hbB⟩; replace hbB : Nx _ _ := hbB))
    all_goals
     go_wp2_with fail
     go_roundw
     case rel => go_split_ands; exact ⟨0 + 1, by omega, by go_num, by rw [HN.out, ← HUT.out, Hx], by assumption⟩
     case measure => simp [RowKit.intOf]; omega
   ·have HN := hid (C1 Ar.kndT xs k (m, n) HXK.out (by omega));have hpos : (0 : Int) < (k : Int) := by omega
    have hq1 : ¬ 9223372036854775807 < (bstr (Ar.join [44] ((xs.take k).map Ar.kndT))).size + 1 := by omega
    have HCM := hid (Fz (Ar.join [44] ((xs.take k).map Ar.kndT)) (Ar.kndT (m, n)));generalize hJK : bstr (Ar.join [44] ((xs.take k).map Ar.kndT)) = JK at *;have HC1 := hid (fun W => Cw m W HXO.out.1);have HC2 := hid (fun W => Cw n W HXO.out.2);generalize hP1 : bstr (Ar.itoa m) = P1 at *;generalize hP2 : bstr (Ar.itoa n) = P2 at *;have hB := HB.out;have hzz : (⟨#[58]⟩ : ByteArray).size = 1 := rfl;go_wp2_with fail
    go_region_held3 (fun W => W.cell? ⟨ba, oa + k * 2, none⟩ = some (.int .i64 m) ∧ W.cell? ⟨ba, oa + k * 2 + 1, none⟩ = some (.int .i64 n) ∧ Below w.heap.size w W) (first | with_reducible exact ⟨hc0, hc1, hB⟩ | with_reducible exact ⟨AA hc0, AA hc1, hB.drew⟩ | (go_split_ands; with_reducible exact ⟨Cg (by assumption) (by assumption), Cg (by assumption) (by assumption), DV (by assumption) (by assumption)⟩)) (first | (go_at_call_of 122 (Value.int .i64 m); refine (HC1.out _).mono ?_; rintro e wA ⟨rfl, hbA⟩; replace hbA : Nx _ _ := hbA) | (go_at_call_of 122 (Value.int .i64 n); refine (HC2.out _).mono ?_; rintro e wB ⟨rfl, hbB⟩; replace hbB : Nx _ _ := hbB))
    all_goals
     go_wp2_with fail
     go_roundw
     case rel => go_split_ands; exact ⟨k + 1, by omega, by go_num, by rw [HN.out, ← HCM.out, ← HUT.out]; exact Id _ _ _ _ _, by assumption⟩
     case measure => simp [RowKit.intOf]; omega
  ·obtain rfl : k = xs.length := by omega
   have HE : Hid ((xs.take xs.length).map Ar.kndT = xs.map Ar.kndT) := hid (by rw [List.take_length]);rw [HE.out];go_wp2_with fail;go_ret;exact ⟨rfl, HB.out⟩
theorem Mq (x : List UInt8) : (⟨#[61]⟩ : ByteArray) ++ bstr x = bstr (61 :: x) := Bg (by simp [bstr])
def sgnT (t : List UInt8) : List UInt8 := if t = [] then [] else 61 :: t
theorem Dc (s : List UInt8) (w : World) (hs : s.length ≤ 1000000) : Calls Tryz.prog 114 #[.string (bstr s)] w fun e w' => e = .returned (.string (bstr (if s = [] then [] else 61 :: Ar.quote s))) ∧ Below w.heap.size w w' := by
 have hem := Cx s;by_cases h : s = []
 ·have h1 : (bstr s).toList.isEmpty = true := by rw [hem, h]; rfl
  rw [if_pos h];have hr : (bstr []) = (⟨#[]⟩ : ByteArray) := rfl;rw [hr];clear hem;generalize bstr s = S at *;go_enter Tryz.func114, Tryz.ntmps114;go_wp2_with fail;go_ret;exact ⟨rfl, Below.refl _ _⟩
 ·have h1 : (bstr s).toList.isEmpty = false := by rw [hem]; cases s with
   | nil => exact absurd rfl h
   | cons c r => rfl
  have HQ := hid (fun W => DT (bstr s) W (by rw [Ab]; exact hs));rw [show (bstr s).data.toList = s from rfl] at HQ;have HE := hid (Mq (Ar.quote s));have hl : (bstr (Ar.quote s)).size ≤ 100000000 := by rw [Ab]; have := IY s s.length; unfold qk at this; rw [List.take_length] at this; unfold Ar.quote; simp only [List.length_append, List.length_cons, List.length_nil] at this ⊢; omega
  have hs1 : ¬ 9223372036854775807 < 1 + (bstr (Ar.quote s)).size := by omega
  rw [if_neg h, ← HE.out];clear hem;generalize bstr s = S at *;generalize bstr (Ar.quote s) = QS at *;go_enter Tryz.func114, Tryz.ntmps114;go_wp2_with fail;refine (HQ.out _).mono ?_;rintro e w2 ⟨rfl, hb2⟩;have HB2 := hid hb2;clear hb2;go_wp2_with fail;go_ret;exact ⟨rfl, HB2.out⟩
theorem Dz (s : List UInt8) (w : World) (hs : s.length ≤ 100000000) : Calls Tryz.prog 116 #[.string (bstr s)] w fun e w' => e = .returned (.string (bstr (sgnT s))) ∧ w' = w := by
 have hem := Cx s;by_cases h : s = []
 ·have h1 : (bstr s).toList.isEmpty = true := by rw [hem, h]; rfl
  have hr : (bstr (sgnT s)) = (⟨#[]⟩ : ByteArray) := by unfold sgnT; rw [if_pos h]; rfl
  rw [hr];clear hem hr;generalize bstr s = S at *;go_enter Tryz.func116, Tryz.ntmps116;go_wp2_with fail;go_ret;exact ⟨rfl, rfl⟩
 ·have h1 : (bstr s).toList.isEmpty = false := by rw [hem]; cases s with
   | nil => exact absurd rfl h
   | cons c r => rfl
  have HE := hid (Mq s);have hl : (bstr s).size ≤ 100000000 := by rw [Ab]; exact hs
  have hs1 : ¬ 9223372036854775807 < 1 + (bstr s).size := by omega
  have hr : bstr (sgnT s) = (⟨#[61]⟩ : ByteArray) ++ bstr s := by unfold sgnT; rw [if_neg h, HE.out]
  rw [hr];clear hem hr;generalize bstr s = S at *;go_enter Tryz.func116, Tryz.ntmps116;go_wp2_with fail;go_ret;exact ⟨rfl, rfl⟩
theorem II (b : Bool) (w : World) : Calls Tryz.prog 115 #[.bool b] w fun e w' => e = .returned (.string (if b then ⟨#[32]⟩ else ⟨#[]⟩)) ∧ w' = w := by
 cases b
 all_goals
  go_enter Tryz.func115, Tryz.ntmps115;go_wp2_with fail;go_ret;exact ⟨rfl, rfl⟩
end Go.Proofs.YteadlcncnhbmjaaGreatDoor
namespace Ar
def xval : FV → Str
 | .flg b => if b then [32] else []
 | v => if v.text = [] then [] else 61 :: v.text
theorem Ez {v : FV} (h : isFlg v.kind = false) : xval v = if v.text = [] then [] else 61 :: v.text := by
 cases v <;> first | rfl | cases h
theorem Lx (nm : Str) (v : FV) (h0 : nm ≠ []) :
  (xval v = [] ∧ item nm v = []) ∨ (xval v = [32] ∧ item nm v = nm) ∨ (xval v ≠ [] ∧ xval v ≠ [32] ∧ item nm v = nm ++ xval v) := by
 by_cases hf : isFlg v.kind = true
 ·cases v with
  | flg b => cases b with
   | false => exact .inl ⟨rfl, rfl⟩
   | true => exact .inr (.inl ⟨rfl, rfl⟩)
  | _ => cases hf
 ·have hf' : isFlg v.kind = false := by simpa using hf
  rw [Ez hf', CA nm hf'];by_cases ht : v.text = []
  ·rw [if_pos ht, if_pos ht]; exact .inl ⟨rfl, rfl⟩
  ·rw [if_neg ht, if_neg ht];refine .inr (.inr ⟨by simp, fun e => ?_, rfl⟩);injection e with e1 e2;exact absurd e1 (by decide)
theorem PP (v : FV) (h : v.text.length ≤ 100000000) : (xval v).length ≤ 100000001 := by
 by_cases hf : isFlg v.kind = true
 ·cases v with
  | flg b => cases b <;> decide
  | _ => cases hf
 ·rw [Ez (by simpa using hf)];split
  ·exact Nat.zero_le _
  ·simp only [List.length_cons]; omega
def lineK (e : List FV) (k : Nat) : Str := join [32] (Bk e k)
theorem LO (e : List FV) : lineK e 0 = [] := by unfold lineK Bk; rw [List.take_zero]; rfl
theorem JL (e : List FV) (h : e.length = 29) : lineK e 29 = line e := by unfold lineK; rw [IB e h]; rfl
theorem Ou (e : List FV) (k : Nat) : ∀ x ∈ Bk e k, x ≠ [] := by
 intro x hx;unfold Bk at hx;have := (List.mem_filter.1 hx).2
 simpa using this
theorem Rl {sep : Str} {l : List Str} (h : ∀ x ∈ l, x ≠ []) (hl : l ≠ []) : join sep l ≠ [] := by
 cases l with
 | nil => exact absurd rfl hl
 | cons x r =>
  have hx := h x (by simp)
  cases r with
  | nil => exact hx
  | cons y r => show x ++ sep ++ join sep (y :: r) ≠ []; simp [hx]
theorem L5 {e : List FV} {k : Nat} {nk : Str × FK} {v : FV} (h1 : NK[k]? = some nk) (h2 : e[k]? = some v) (h : item nk.1 v = []) : lineK e (k + 1) = lineK e k := by
 unfold lineK;rw [Ff e k nk v h1 h2, if_pos h]
theorem Jl {e : List FV} {k : Nat} {nk : Str × FK} {v : FV} (h1 : NK[k]? = some nk) (h2 : e[k]? = some v) (h : item nk.1 v ≠ []) : lineK e (k + 1) = if lineK e k = [] then item nk.1 v else lineK e k ++ [32] ++ item nk.1 v := by
 unfold lineK;rw [Ff e k nk v h1 h2, if_neg h];by_cases h3 : Bk e k = []
 ·rw [h3]; rfl
 ·rw [EH _ _ _ h3, if_neg (Rl (Ou e k) h3)]
theorem NF (e : List FV) (k : Nat) (h : e.length = 29) : (lineK e k).length ≤ (line e).length := by
 rw [← JL e h];by_cases hk : k ≤ 29
 ·have e1 : Bk e 29 = Bk e k ++ (((List.zipWith (fun nk v => item nk.1 v) NK e).take 29).drop k).filter (fun x => decide (x ≠ [])) := by
   unfold Bk;rw [← List.filter_append]
   congr 1
   rw [show (List.zipWith (fun nk v => item nk.1 v) NK e).take k = ((List.zipWith (fun nk v => item nk.1 v) NK e).take 29).take k from by rw [List.take_take, Nat.min_eq_left hk], List.take_append_drop]
  unfold lineK;rw [e1];exact IA _ _ _
 ·have e1 : Bk e k = Bk e 29 := by
   unfold Bk;rw [List.take_of_length_le (by rw [List.length_zipWith, h]; exact Nat.le_trans (by decide : min NK.length 29 ≤ 29) (by omega)), List.take_of_length_le (by rw [List.length_zipWith, h]; exact (by decide : min NK.length 29 ≤ 29))]
  unfold lineK;rw [e1];exact Nat.le_refl _
end Ar
