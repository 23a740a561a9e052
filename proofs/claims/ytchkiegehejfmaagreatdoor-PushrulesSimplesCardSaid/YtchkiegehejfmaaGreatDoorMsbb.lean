/- The texts Ge, Gf, Vc of this proof, one behind the other. -/
import Derived.Test.YtchkiegehejfmaaGreatDoorMsax
import Derived.Test.YtchkiegehejfmaaGreatDoorMsak
import Derived.Test.YtchkiegehejfmaaGreatDoorMsal
import Derived.Test.YtchkiegehejfmaaGreatDoorMsas
set_option linter.unusedSimpArgs false
set_option maxHeartbeats 16000000
set_option maxRecDepth 100000
set_option linter.unusedVariables false
namespace Pr
theorem wordc_ends (c : UInt8) : wordc c = !(endsB c.toNat) := by
 unfold wordc endsB markOf;by_cases h1 : c = 32
 ·subst h1; rfl
 by_cases h2 : c = 40
 ·subst h2; rfl
 by_cases h3 : c = 41
 ·subst h3; rfl
 by_cases h4 : c = 44
 ·subst h4; rfl
 by_cases h5 : c = 34
 ·subst h5; rfl
 have hn : ∀ d : UInt8, c ≠ d → c.toNat ≠ d.toNat := fun d h e => h (UInt8.toNat_inj.1 e)
 have e1 := hn 32 h1;have e2 := hn 40 h2;have e3 := hn 41 h3;have e4 := hn 44 h4;have e5 := hn 34 h5;have f1 : c.toNat ≠ 32 := e1;have f2 : c.toNat ≠ 40 := e2;have f3 : c.toNat ≠ 41 := e3;have f4 : c.toNat ≠ 44 := e4;have f5 : c.toNat ≠ 34 := e5;rw [if_neg h2, if_neg h3, if_neg h4, beq_eq_false_iff_ne.2 f1, beq_eq_false_iff_ne.2 f2, beq_eq_false_iff_ne.2 f3, beq_eq_false_iff_ne.2 f4, beq_eq_false_iff_ne.2 f5, bne, bne, beq_eq_false_iff_ne.2 h1, beq_eq_false_iff_ne.2 h5];rfl
end Pr
namespace Go.Proofs.YtchkiegehejfmaaGreatDoor
open Go.RowKit Go.Lib
def kdOf (f : Int) : Int := if f = 1 then 119 else if f = 2 then 115 else if f = 3 then 40 else if f = 4 then 41 else if f = 5 then 44 else 0
def rkV (t : Pr.Tk) : List Value := [.int .u8 (kdOf t.form), .string (bstr t.text)]
def rkL (L : List Pr.Tk) : List Value := L.flatMap rkV
theorem Ht (a b : List Pr.Tk) : rkL (a ++ b) = rkL a ++ rkL b := List.flatMap_append
theorem Hs : (Tryz.prog.info? 98).map (fun i => (i.zero, i.size, i.bytes)) = some (some (.agg #[.int .u8 0, .string ByteArray.empty]), 2, 24) := by kernel_rfl
theorem D7 : (Tryz.prog.info? 98).map (·.size) = some 2 := by kernel_rfl
theorem rowRk : RowU 93 98 2 24 := ⟨Tryz.underlying93, ⟨_, Hs, rfl⟩, by decide, by decide⟩
theorem B1 (f : Int) (t : List UInt8) : ∀ u ∈ ([.int .u8 f, .string (bstr t)] : List Value), u.oneCell' = true := by intro u hu; simp at hu; rcases hu with rfl | rfl <;> rfl
theorem rd_rk (w : World) (f : Int) (t : List UInt8) : Rd (w.alloc (.cells #[.int .u8 f, .string (bstr t)] 98)) (some ⟨w.heap.size, 0, none⟩) (1 * 2) [.int .u8 f, .string (bstr t)] := Rd.of_blk (vs := [.int .u8 f, .string (bstr t)]) (Blk.new w 98 #[.int .u8 f, .string (bstr t)])
theorem CB {w : World} {base : Nat} {v : Value} {acc : List Pr.Tk} {f k : Int} {t : List UInt8} (hk : kdOf f = k) (h : w.ownsRow base 98 2 v (acc.length + 1) (rkL acc ++ [.int .u8 k, .string (bstr t)])) : w.ownsRow base 98 2 v (acc ++ [(⟨f, t⟩ : Pr.Tk)]).length (rkL (acc ++ [(⟨f, t⟩ : Pr.Tk)])) := by
 subst hk;rw [List.length_append, Ht]; exact h
def RkA (w w' : World) (e : Ending) : Option (List Pr.Tk) → Prop
 | none => e = .returned (.tuple #[.slice none 0 0, .bool false])
 | some L => ∃ A cap, e = .returned (.tuple #[.slice A L.length cap, .bool true]) ∧ w'.ownsRow w.heap.size 98 2 (.slice A L.length cap) L.length (rkL L)
theorem RkA.bad {w w' : World} {x : Option (List Pr.Tk)} (h : none = x) : RkA w w' (.returned (.tuple #[.slice none 0 0, .bool false])) x := by subst h; exact rfl
theorem RkA.good {w w' : World} {A : Option Addr} {cap : Nat} {L : List Pr.Tk} {x : Option (List Pr.Tk)} (h : some L = x) (ho : w'.ownsRow w.heap.size 98 2 (.slice A L.length cap) L.length (rkL L)) : RkA w w' (.returned (.tuple #[.slice A L.length cap, .bool true])) x := by
 subst h;exact ⟨A, cap, rfl, ho⟩
theorem EG (a b : List UInt8) : bstr a ++ bstr b = bstr (a ++ b) := by
 apply A5;simp [bstr]
theorem ES (S : ByteArray) (a b : Int) (j : Nat) (ha : a = j) (hb : b = (j : Int) + 1) (h : j < S.size) (W : World) : (Instr.slice 9 (.string S) (some (.int .i64 a)) (some (.int .i64 b)) none).run Tryz.prog W = .ok (.string (bstr [S[j]])) W := by
 subst ha hb;have e : S.extract (j : Int).toNat ((j : Int) + 1).toNat = bstr [S[j]] := by
  rw [show (j : Int).toNat = j from rfl, show ((j : Int) + 1).toNat = j + 1 by omega];exact A5 (by rw [AK, Cl S j h, show j + 1 - j = 1 by omega]; rfl)
 rw [run_slice_string (P := Tryz.prog) (w := W) 9 S .i64 .i64 (j : Int) ((j : Int) + 1) Tryz.underlying9 (by omega) (by omega) (by omega), e]
theorem H6 {c : UInt8} (h : Pr.markOf c ≠ 0) : kdOf (Pr.markOf c) = (c.toNat : Int) := by
 unfold Pr.markOf at *;split at h
 ·rename_i e; subst e; rfl
 ·split at h
  ·rename_i e; subst e; rfl
  ·split at h
   ·rename_i e; subst e; rfl
   ·exact absurd rfl h
theorem Em (S : ByteArray) (w : World) (hs : S.size ≤ 1000000) :
  Calls Tryz.prog 64 #[.string S] w fun e w' => RkA w w' e (Pr.tkz S.data.toList) ∧ Below w.heap.size w w' := by
 have HDA : Hid (∀ k (h : k < S.size), S.data.toList.drop k = S[k] :: S.data.toList.drop (k + 1)) := hid (Cl S);have HDE : Hid (∀ k, S.size ≤ k → S.data.toList.drop k = []) := hid (Ci S);have HAT : Hid (∀ k (h : k < S.size), S.data.toList[k]? = some S[k]) := hid (AN S);have HLE : Hid (S.data.toList.length = S.size) := hid (Am S).symm;have HEX : Hid (∀ a b, S.extract a b = bstr ((S.data.toList.drop a).take (b - a))) := hid (fun a b => A5 (by rw [AK]; rfl));have HM := hid (fun n W => FY n W);obtain ⟨X, hX⟩ : ∃ X, Pr.tkz S.data.toList = X := ⟨_, rfl⟩;have HX : Hid (Pr.tkA [] (S.data.toList.drop 0) = X) := hid (by rw [← hX, List.drop_zero]; unfold Pr.tkA; cases Pr.tkz S.data.toList <;> rfl);rw [hX];clear hX;go_enter Tryz.func64, Tryz.ntmps64;go_wp2_with fail
 go_loopw [4, 5] (fun out ix wr => ∃ (k : Nat) (acc : List Pr.Tk), k ≤ S.size ∧ ix = .int .i64 k ∧ wr.ownsRow w.heap.size 98 2 out acc.length (rkL acc) ∧ Hid (Pr.tkA acc (S.data.toList.drop k) = X) ∧ acc.length ≤ k ∧ Below w.heap.size w wr) (fun _ ix _ => S.size - (RowKit.intOf ix).toNat)
 case atStart => exact ⟨0, [], Nat.zero_le _, rfl, World.ownsRow_nil w w.heap.size 98 2, HX, Nat.le_refl _, Below.refl _ _⟩
 case round =>
  obtain ⟨k, acc, hk, rfl, ho, hrl, hol, hb⟩ := hrel;have HO := hid ho;have HB := hid hb;have hbs := hb.size;obtain ⟨A, cap, rfl, -⟩ := AU ho;clear ho hb;by_cases hlt : k < S.size
  ·have hdl := HDA.out k hlt;have hc2 := (S[k]'hlt).toNat_lt;by_cases h32 : S[k]'hlt = 32
   ·have hx := u8_eq (n := 32) rfl h32;have HT : Hid (Pr.tkA acc (S.data.toList.drop (k + 1)) = X) := hid (by rw [← hrl.out, hdl, h32]; unfold Pr.tkA; rw [Pr.tkz_blank]);clear hdl h32;go_wp2_with fail
    go_roundw
    case rel => exact ⟨k + 1, acc, by omega, by go_num, HO.out, HT, by omega, HB.out⟩
    case measure => simp [RowKit.intOf]; omega
   have hx := u8_ne (n := 32) rfl h32;by_cases hmk : Pr.markOf (S[k]'hlt) ≠ 0
   ·have HT : Hid (Pr.tkA (acc ++ [⟨Pr.markOf (S[k]'hlt), []⟩]) (S.data.toList.drop (k + 1)) = X) := hid (by rw [← hrl.out, hdl, Pr.tkA_cons (Pr.tkz_mark _ _ hmk)]);have HKD := hid (H6 hmk);have HB2 := hid (HB.out.alloc hbs (.cells #[.int .u8 ((S[k]'hlt).toNat : Int), .string (bstr [])] 98));have HO2 := hid (AR HO.out ((Below.refl wr.heap.size wr).alloc (Nat.le_refl _) (.cells #[.int .u8 ((S[k]'hlt).toNat : Int), .string (bstr [])] 98)));have hs8 : w.heap.size ≤ (wr.alloc (.cells #[.int .u8 ((S[k]'hlt).toNat : Int), .string (bstr [])] 98)).heap.size := HB2.out.size;have hcc : S[k]'hlt = 40 ∨ S[k]'hlt = 41 ∨ S[k]'hlt = 44 := by
     unfold Pr.markOf at hmk;split at hmk
     ·exact .inl (by assumption)
     ·split at hmk
      ·exact .inr (.inl (by assumption))
      ·split at hmk
       ·exact .inr (.inr (by assumption))
       ·exact absurd rfl hmk
    clear hdl h32 hmk;rcases hcc with h40 | h41 | h44
    ·have hz := u8_eq (n := 40) rfl h40;clear h40;go_wp2_with (first | (at_builtin; refine AC rowRk rfl _ _ rfl _ (.slice A acc.length cap) acc.length (rkL acc) _ w.heap.size rfl HO2.out _ 1 1 rfl (rd_rk wr _ []) (B1 _ []) hs8 (by omega) ?_; intro v2 w3 ho3 hg3 hb3 hw3))
     go_roundw
     case rel => exact ⟨k + 1, acc ++ [⟨Pr.markOf (S[k]'hlt), []⟩], by omega, by go_num, CB HKD.out ho3, HT, by rw [List.length_append]; simp; omega, hb3 _ HB2.out⟩
     case measure => simp [RowKit.intOf]; omega
    ·have hz0 := u8_ne (n := 40) rfl (show S[k]'hlt ≠ 40 by rw [h41]; decide);have hz := u8_eq (n := 41) rfl h41;clear h41;go_wp2_with (first | (at_builtin; refine AC rowRk rfl _ _ rfl _ (.slice A acc.length cap) acc.length (rkL acc) _ w.heap.size rfl HO2.out _ 1 1 rfl (rd_rk wr _ []) (B1 _ []) hs8 (by omega) ?_; intro v2 w3 ho3 hg3 hb3 hw3))
     go_roundw
     case rel => exact ⟨k + 1, acc ++ [⟨Pr.markOf (S[k]'hlt), []⟩], by omega, by go_num, CB HKD.out ho3, HT, by rw [List.length_append]; simp; omega, hb3 _ HB2.out⟩
     case measure => simp [RowKit.intOf]; omega
    ·have hz0 := u8_ne (n := 40) rfl (show S[k]'hlt ≠ 40 by rw [h44]; decide);have hz1 := u8_ne (n := 41) rfl (show S[k]'hlt ≠ 41 by rw [h44]; decide);have hz := u8_eq (n := 44) rfl h44;clear h44;go_wp2_with (first | (at_builtin; refine AC rowRk rfl _ _ rfl _ (.slice A acc.length cap) acc.length (rkL acc) _ w.heap.size rfl HO2.out _ 1 1 rfl (rd_rk wr _ []) (B1 _ []) hs8 (by omega) ?_; intro v2 w3 ho3 hg3 hb3 hw3))
     go_roundw
     case rel => exact ⟨k + 1, acc ++ [⟨Pr.markOf (S[k]'hlt), []⟩], by omega, by go_num, CB HKD.out ho3, HT, by rw [List.length_append]; simp; omega, hb3 _ HB2.out⟩
     case measure => simp [RowKit.intOf]; omega
   have hm0 : Pr.markOf (S[k]'hlt) = 0 := Classical.not_not.1 hmk;have hz40 := u8_ne (n := 40) rfl (show S[k]'hlt ≠ 40 from fun e => by rw [e] at hm0; cases hm0);have hz41 := u8_ne (n := 41) rfl (show S[k]'hlt ≠ 41 from fun e => by rw [e] at hm0; cases hm0);have hz44 := u8_ne (n := 44) rfl (show S[k]'hlt ≠ 44 from fun e => by rw [e] at hm0; cases hm0);by_cases h34 : S[k]'hlt = 34
   ·have hy := u8_eq (n := 34) rfl h34;obtain ⟨QX, hQX⟩ : ∃ QX, Pr.quoteP [] (S.data.toList.drop (k + 1)) = QX := ⟨_, rfl⟩;have HQX := hid hQX;have HQN : Hid (QX = none → none = X) := hid (fun h => by rw [← hrl.out, hdl, h34]; unfold Pr.tkA; rw [Pr.tkz_q0 _ (by rw [hQX, h])]; rfl);have HQS : Hid (∀ t q, QX = some (t, q) → Pr.tkA (acc ++ [⟨2, t⟩]) q = X) := hid (fun t q h => by rw [← hrl.out, hdl, h34, Pr.tkA_cons (Pr.tkz_q1 _ _ _ (by rw [hQX, h]))]);clear hdl h34 h32 hmk hm0 hQX;go_wp2_with fail
    go_loop [5, 7] (fun ix tx => ∃ (j : Nat) (tl : List UInt8), k < j ∧ j ≤ S.size ∧ ix = .int .i64 j ∧ tx = .string (bstr tl) ∧ Hid (Pr.quoteP tl (S.data.toList.drop j) = QX) ∧ tl.length ≤ j) (fun ix _ => S.size - (RowKit.intOf ix).toNat)
    case atStart => exact ⟨k + 1, [], by omega, by omega, by go_num, rfl, HQX, by simp⟩
    case round =>
     obtain ⟨j, tl, hkj, hj, rfl, rfl, hq, htl⟩ := hrel;have htz : (bstr tl).size = tl.length := Ai tl;by_cases hlj : j < S.size
     ·have hdj := HDA.out j hlj;have hcj := (S[j]'hlj).toNat_lt;by_cases h34 : S[j]'hlj = 34
      ·have hy2 := Bu (n := 34) rfl h34;have HT : Hid (Pr.tkA (acc ++ [⟨2, tl⟩]) (S.data.toList.drop (j + 1)) = X) := hid (HQS.out tl _ (by rw [← hq.out, hdj, D0 _ _ h34]));have HB8 := hid (HB.out.alloc hbs (.cells #[.int .u8 115, .string (bstr tl)] 98));have HO8 := hid (AR HO.out ((Below.refl wr.heap.size wr).alloc (Nat.le_refl _) (.cells #[.int .u8 115, .string (bstr tl)] 98)));have hs8 : w.heap.size ≤ (wr.alloc (.cells #[.int .u8 115, .string (bstr tl)] 98)).heap.size := HB8.out.size;have hjq : ((j : Int) == (S.size : Int)) = false := beq_eq_false_iff_ne.2 (by omega);have hjn : (j == S.size) = false := beq_eq_false_iff_ne.2 (by omega);clear hdj h34 htz;go_wp2_with (first | (at_builtin; refine AC rowRk rfl _ _ rfl _ (.slice A acc.length cap) acc.length (rkL acc) _ w.heap.size rfl HO8.out _ 1 1 rfl (rd_rk wr 115 tl) (B1 115 tl) hs8 (by omega) ?_; intro v2 w3 ho3 hg3 hb3 hw3))
       go_roundw
       case rel => exact ⟨j + 1, acc ++ [⟨2, tl⟩], by omega, by go_num, CB rfl ho3, HT, by rw [List.length_append]; simp; omega, hb3 _ HB8.out⟩
       case measure => simp [RowKit.intOf]; omega
      ·have hy2 := Bh (n := 34) rfl h34;by_cases h92 : S[j]'hlj = 92
       ·have hx2 := u8_eq (n := 92) rfl h92;by_cases hj1 : j + 1 < S.size
        ·have hdl2 := HDA.out (j + 1) hj1;have hd2 := (S[j + 1]'hj1).toNat_lt;have hjq : ((j : Int) + 1 == (S.size : Int)) = false := beq_eq_false_iff_ne.2 (by omega);have hjn : (j + 1 == S.size) = false := beq_eq_false_iff_ne.2 (by omega);have hsl := ES S ((j : Int) + 1) ((j : Int) + 1 + 1) (j + 1) (by omega) (by omega) hj1;have hone : (bstr [S[j + 1]'hj1]).size = 1 := rfl;have hsum : bstr tl ++ bstr [S[j + 1]'hj1] = bstr (tl ++ [S[j + 1]'hj1]) := EG ..
         have hp9 : ¬ 9223372036854775807 < (bstr tl).size + 1 := by rw [htz]; omega
         by_cases hd : S[j + 1]'hj1 = 34 ∨ S[j + 1]'hj1 = 92
         ·have HT : Hid (Pr.quoteP (tl ++ [S[j + 1]'hj1]) (S.data.toList.drop (j + 1 + 1)) = QX) := hid (by rw [← hq.out, hdj, hdl2, Cd _ _ h92 hd]);rcases hd with hd | hd
          ·have hu := Bu (n := 34) rfl hd;clear hdj hdl2 h34 h92 hd htz;go_wp2_with fail
           go_round
           case rel => exact ⟨j + 1 + 1, tl ++ [S[j + 1]'hj1], by omega, by omega, by go_num, rfl, HT, by rw [List.length_append]; simp; omega⟩
           case measure => simp [RowKit.intOf]; omega
          ·have hu := Bh (n := 34) rfl (show S[j + 1]'hj1 ≠ 34 by rw [hd]; decide);have hv := Bu (n := 92) rfl hd;clear hdj hdl2 h34 h92 hd htz;go_wp2_with fail
           go_round
           case rel => exact ⟨j + 1 + 1, tl ++ [S[j + 1]'hj1], by omega, by omega, by go_num, rfl, HT, by rw [List.length_append]; simp; omega⟩
           case measure => simp [RowKit.intOf]; omega
         ·have HE : Hid (none = X) := hid (HQN.out (by rw [← hq.out, hdj, hdl2, Dh _ _ h92 hd]));have hu := Bh (n := 34) rfl (fun e => hd (.inl e));have hv := Bh (n := 92) rfl (fun e => hd (.inr e));clear hdj hdl2 h34 h92 hd htz;go_wp2_with fail
          go_ret2
          exact ⟨RkA.bad HE.out, HB.out⟩
        ·have HE : Hid (none = X) := hid (HQN.out (by rw [← hq.out, hdj, HDE.out (j + 1) (by omega), Da _ h92]));have hjq : ((j : Int) + 1 == (S.size : Int)) = true := beq_iff_eq.2 (by omega);have hjn : (j + 1 == S.size) = true := beq_iff_eq.2 (by omega);clear hdj h34 h92 htz;go_wp2_with fail
         go_ret2
         exact ⟨RkA.bad HE.out, HB.out⟩
       ·have hx2 := u8_ne (n := 92) rfl h92;have HT : Hid (Pr.quoteP (tl ++ [S[j]'hlj]) (S.data.toList.drop (j + 1)) = QX) := hid (by rw [← hq.out, hdj, Ek _ _ h34 h92]);have hsl := ES S (j : Int) ((j : Int) + 1) j rfl rfl hlj;have hone : (bstr [S[j]'hlj]).size = 1 := rfl;have hsum : bstr tl ++ bstr [S[j]'hlj] = bstr (tl ++ [S[j]'hlj]) := EG ..
        have hp9 : ¬ 9223372036854775807 < (bstr tl).size + 1 := by rw [htz]; omega
        clear hdj h34 h92 htz;go_wp2_with fail
        go_round
        case rel => exact ⟨j + 1, tl ++ [S[j]'hlj], by omega, by omega, by go_num, rfl, HT, by rw [List.length_append]; simp; omega⟩
        case measure => simp [RowKit.intOf]; omega
     ·obtain rfl : j = S.size := by omega
      have HE : Hid (none = X) := hid (HQN.out (by rw [← hq.out, HDE.out _ (Nat.le_refl _), D3]));clear htz;go_wp2_with fail
      go_ret2
      exact ⟨RkA.bad HE.out, HB.out⟩
   ·have hy := u8_ne (n := 34) rfl h34;have HW : Hid (Pr.wordc (S[k]'hlt) = true) := hid (Pr.wordc_of h32 hmk h34);have HDL := hid hdl;clear hdl h34 h32 hmk hm0;go_wp2_with fail
    go_loopw [8] (fun ix wq => ∃ j : Nat, k ≤ j ∧ j ≤ S.size ∧ ix = .int .i64 j ∧ wr = wq ∧ Hid (∀ c ∈ (S.data.toList.drop k).take (j - k), Pr.wordc c = true)) (fun ix _ => S.size - (RowKit.intOf ix).toNat)
    case atStart => exact ⟨k, Nat.le_refl _, hk, rfl, rfl, hid (by rw [Nat.sub_self]; simp)⟩
    case round =>
     obtain ⟨j, hkj, hj, rfl, rfl, hall⟩ := hrel;by_cases hltj : j < S.size
     ·have HMJ := hid (fun W => HM.out (S[j]'hltj).toNat W);have hwe := Pr.wordc_ends (S[j]'hltj)
      cases hwj : Pr.endsB (S[j]'hltj).toNat with
      | false =>
       rw [hwj] at HMJ hwe
       have HN : Hid (∀ c ∈ (S.data.toList.drop k).take (j + 1 - k), Pr.wordc c = true) := hid (by
        have := Pr.while_next hall.out (k := j - k) (c := S[j]'hltj) (by rw [List.getElem?_drop, show k + (j - k) = j by omega]; exact HAT.out j hltj) hwe
        rwa [show j - k + 1 = j + 1 - k by omega] at this)
       clear hwj hwe;go_wp2_with (go_at_call 113; refine (HMJ.out _).mono ?_; rintro e w' ⟨rfl, rfl⟩)
       go_roundw
       case rel => exact ⟨j + 1, by omega, by omega, by go_num, by trivial, HN⟩
       case measure => simp [RowKit.intOf]; omega
      | true =>
       rw [hwj] at HMJ hwe;have hwf : Pr.wordc (S[j]'hltj) = false := hwe
       have HSTOP : Hid (∀ c, (S.data.toList.drop k)[j - k]? = some c → Pr.wordc c = false) := hid (fun c hc => by
        rw [List.getElem?_drop, show k + (j - k) = j by omega, HAT.out j hltj] at hc;injection hc with hc;rw [← hc]
        exact hwf)
       obtain ⟨h3, h4⟩ := Pr.while_of (p := Pr.wordc) (l := S.data.toList.drop k) (k := j - k) hall.out HSTOP.out;have hkj2 : k < j := by
        rcases Nat.lt_or_ge k j with h | h
        ·exact h
        ·have : j = k := by omega
         subst this
         exfalso
         have h5 := HSTOP.out (S[j]'hlt) (by rw [Nat.sub_self, List.getElem?_drop, Nat.add_zero]; exact HAT.out j hlt);rw [HW.out] at h5;cases h5
       have HT : Hid (Pr.tkA (acc ++ [⟨1, (S.data.toList.drop k).take (j - k)⟩]) (S.data.toList.drop j) = X) := hid (by
        rw [HDL.out] at h3 h4
        rw [← hrl.out, HDL.out, Pr.tkA_cons (Pr.tkz_w _ _ HW.out), h3, h4, ← HDL.out, List.drop_drop, show k + (j - k) = j by omega])
       have hxs := HEX.out k j;obtain ⟨t, ht⟩ : ∃ t, (S.data.toList.drop k).take (j - k) = t := ⟨_, rfl⟩;rw [ht] at HT hxs;have HB8 := hid (HB.out.alloc hbs (.cells #[.int .u8 119, .string (bstr t)] 98));have HO8 := hid (AR HO.out ((Below.refl wr.heap.size wr).alloc (Nat.le_refl _) (.cells #[.int .u8 119, .string (bstr t)] 98)));have hs8 : w.heap.size ≤ (wr.alloc (.cells #[.int .u8 119, .string (bstr t)] 98)).heap.size := HB8.out.size;clear h3 h4 ht;clear hwj hwe hwf
       go_wp2_with (first
        | (go_at_call 113; refine (HMJ.out _).mono ?_; rintro e w' ⟨rfl, rfl⟩)
        | (at_builtin; refine AC rowRk rfl _ _ rfl _ (.slice A acc.length cap) acc.length (rkL acc) _ w.heap.size rfl HO8.out _ 1 1 rfl (rd_rk wr 119 t) (B1 119 t) hs8 (by omega) ?_; intro v2 w3 ho3 hg3 hb3 hw3))
       go_roundw
       case rel => exact ⟨j, acc ++ [⟨1, t⟩], hj, by go_num, CB rfl ho3, HT, by rw [List.length_append]; simp; omega, hb3 _ HB8.out⟩
       case measure => simp [RowKit.intOf]; omega
     ·have HSTOP : Hid (∀ c, (S.data.toList.drop k)[j - k]? = some c → Pr.wordc c = false) := hid (fun c hc => by
       rw [List.getElem?_drop, show k + (j - k) = j by omega] at hc;have := (List.getElem?_eq_some_iff.1 hc).1;rw [HLE.out] at this
       omega)
      obtain ⟨h3, h4⟩ := Pr.while_of (p := Pr.wordc) (l := S.data.toList.drop k) (k := j - k) hall.out HSTOP.out;have hkj2 : k < j := by
       rcases Nat.lt_or_ge k j with h | h
       ·exact h
       ·have : j = k := by omega
        subst this
        exfalso
        have h5 := HSTOP.out (S[j]'hlt) (by rw [Nat.sub_self, List.getElem?_drop, Nat.add_zero]; exact HAT.out j hlt);rw [HW.out] at h5;cases h5
      have HT : Hid (Pr.tkA (acc ++ [⟨1, (S.data.toList.drop k).take (j - k)⟩]) (S.data.toList.drop j) = X) := hid (by
       rw [HDL.out] at h3 h4
       rw [← hrl.out, HDL.out, Pr.tkA_cons (Pr.tkz_w _ _ HW.out), h3, h4, ← HDL.out, List.drop_drop, show k + (j - k) = j by omega])
      have hxs := HEX.out k j;obtain ⟨t, ht⟩ : ∃ t, (S.data.toList.drop k).take (j - k) = t := ⟨_, rfl⟩;rw [ht] at HT hxs;have HB8 := hid (HB.out.alloc hbs (.cells #[.int .u8 119, .string (bstr t)] 98));have HO8 := hid (AR HO.out ((Below.refl wr.heap.size wr).alloc (Nat.le_refl _) (.cells #[.int .u8 119, .string (bstr t)] 98)));have hs8 : w.heap.size ≤ (wr.alloc (.cells #[.int .u8 119, .string (bstr t)] 98)).heap.size := HB8.out.size;clear h3 h4 ht
      go_wp2_with (first
       | (at_builtin; refine AC rowRk rfl _ _ rfl _ (.slice A acc.length cap) acc.length (rkL acc) _ w.heap.size rfl HO8.out _ 1 1 rfl (rd_rk wr 119 t) (B1 119 t) hs8 (by omega) ?_; intro v2 w3 ho3 hg3 hb3 hw3))
      go_roundw
      case rel => exact ⟨j, acc ++ [⟨1, t⟩], hj, by go_num, CB rfl ho3, HT, by rw [List.length_append]; simp; omega, hb3 _ HB8.out⟩
      case measure => simp [RowKit.intOf]; omega
  ·have HE : Hid (some acc = X) := hid (by rw [← hrl.out, HDE.out k (by omega), Pr.tkA_nil]);go_wp2_with fail
   go_ret2
   exact ⟨RkA.good HE.out HO.out, HB.out⟩
theorem G7 : ∀ (L : List Pr.Tk) (i : Nat) (t : Pr.Tk), L[i]? = some t → (rkL L)[i * 2]? = some (.int .u8 (kdOf t.form)) ∧ (rkL L)[i * 2 + 1]? = some (.string (bstr t.text))
 | [], i, t, h => by cases h
 | a :: L, 0, t, h => by injection h with h; subst h; exact ⟨rfl, rfl⟩
 | a :: L, i + 1, t, h => by
  obtain ⟨h1, h2⟩ := G7 L i t h;have e : rkL (a :: L) = .int .u8 (kdOf a.form) :: .string (bstr a.text) :: rkL L := rfl;rw [e, show (i + 1) * 2 = i * 2 + 1 + 1 by omega];exact ⟨h1, h2⟩
theorem Hx {L : List Pr.Tk} {i : Nat} {t : Pr.Tk} (h : L[i]? = some t) : Pr.hdT (L.drop i) = t := by
 obtain ⟨h1, h2⟩ := List.getElem?_eq_some_iff.1 h;rw [List.drop_eq_getElem_cons h1, h2];rfl
theorem rk_at {w : World} {A : Option Addr} {L : List Pr.Tk} {i : Nat} (h : Rd w A (L.length * 2) (rkL L)) (hi : i < L.length) : ∃ b off, A = some ⟨b, off, none⟩ ∧ w.rangeAt b (off + i * 2) [.int .u8 (kdOf (Pr.hdT (L.drop i)).form), .string (bstr (Pr.hdT (L.drop i)).text)] := by
 obtain ⟨t, ht⟩ : ∃ t, L[i]? = some t := ⟨_, List.getElem?_eq_getElem hi⟩;obtain ⟨h1, h2⟩ := G7 L i t ht;rw [Hx ht];obtain ⟨b1, o1, e1, c1⟩ := h.2 _ _ h1;obtain ⟨b2, o2, e2, c2⟩ := h.2 _ _ h2;rw [e1] at e2;injection e2 with e2;injection e2 with e2 e2' _;subst e2 e2';refine ⟨b1, o1, e1, fun j v hj => ?_⟩
 match j, hj with
 | 0, hj => injection hj with hj; subst hj; exact c1
 | 1, hj => injection hj with hj; subst hj; exact c2
 | n + 2, hj => simp at hj
theorem Bk (A : Option Addr) (cap : Nat) (L : List Pr.Tk) (i : Nat) (w : World) (h : Rd w A (L.length * 2) (rkL L)) (hL : L.length ≤ 1000000) (hi : i ≤ 2000000) :
  Calls Tryz.prog 66 #[.slice A L.length cap, .int .i64 (i : Int)] w fun e w' => e = .returned (.agg #[.int .u8 (kdOf (Pr.hdT (L.drop i)).form), .string (bstr (Pr.hdT (L.drop i)).text)]) ∧ Below w.heap.size w w' := by
 by_cases hlt : i < L.length
 ·obtain ⟨b, off, rfl, hr⟩ := rk_at h hlt;have HR := hid (fun W (hb : Below w.heap.size w W) => Aw hr (hb.block _ (AL hr (by simp))));have hlI : (i : Int) < (L.length : Int) := by omega
  generalize kdOf (Pr.hdT (L.drop i)).form = kd at *;generalize bstr (Pr.hdT (L.drop i)).text = tx at *;have hr2 := HR.out (w.alloc (.cells #[.int .u8 0, .string ⟨#[]⟩] 98)) ((Below.refl _ _).alloc (Nat.le_refl _) _);have HL2 : Hid ((Tryz.prog.info? 98).map (·.size) = some ([.int .u8 kd, .string tx] : List Value).length) := hid D7;clear h hr;go_enter Tryz.func66, Tryz.ntmps66;go_wp2_with ((with_reducible refine wpList_load_mid rfl 98 _ rfl b (off + i * 2) ?_ _ _ hr2 Tryz.underlying98 ?_ HL2.out ?_); rfl; rfl);exact bodyPost_ret (v := .agg #[.int .u8 kd, .string tx]) (results_cell_row rfl _ _ w.heap.size 98 _ (0, 0) _ rfl (Blk.new w _ _) Tryz.underlying98 rfl (by rw [D7]; rfl)) rfl ⟨rfl, (Below.refl _ w).alloc (Nat.le_refl _) _⟩
 ·have e : L.drop i = [] := List.drop_of_length_le (by omega);have hlI : ¬ (i : Int) < (L.length : Int) := by omega
  rw [e];clear e h;go_enter Tryz.func66, Tryz.ntmps66;go_wp2_with fail;exact bodyPost_ret (v := .agg #[.int .u8 0, .string ⟨#[]⟩]) (results_cell_row rfl _ _ w.heap.size 98 _ (0, 0) _ rfl (Blk.new w _ _) Tryz.underlying98 rfl (by rw [D7]; rfl)) rfl ⟨rfl, (Below.refl _ w).alloc (Nat.le_refl _) _⟩
theorem Bb (f : Int) : (kdOf f == 119) = (f == 1) := by
 unfold kdOf;by_cases h1 : f = 1
 ·subst h1; rfl
 rw [if_neg h1];by_cases h2 : f = 2
 ·subst h2; rfl
 rw [if_neg h2];by_cases h3 : f = 3
 ·subst h3; rfl
 rw [if_neg h3];by_cases h4 : f = 4
 ·subst h4; rfl
 rw [if_neg h4];by_cases h5 : f = 5
 ·subst h5; rfl
 rw [if_neg h5, beq_eq_false_iff_ne.2 h1];rfl
theorem BZ (s : List UInt8) (A : Option Addr) (cap : Nat) (L : List Pr.Tk) (i : Nat) (w : World) (h : Rd w A (L.length * 2) (rkL L)) (hL : L.length ≤ 1000000) (hi : i ≤ 2000000) :
  Calls Tryz.prog 65 #[.slice A L.length cap, .int .i64 (i : Int), .string (bstr s)] w fun e w' => e = .returned (.bool (Pr.headIs s (L.drop i))) ∧ Below w.heap.size w w' := by
 have HA := hid (Bk A cap L i w h hL hi);rw [Pr.headIs_hd];generalize Pr.hdT (L.drop i) = t at *;have hk := Bb t.form;have hs := Cp t.text s;generalize (t.text == s) = tb at *;generalize (t.form == 1) = fb at *;generalize kdOf t.form = kd at *;generalize bstr t.text = tx at *;generalize bstr s = sx at *;clear h;cases fb <;> cases tb
 all_goals
  go_enter Tryz.func65, Tryz.ntmps65;go_wp2_with fail;refine HA.out.mono ?_;rintro e w2 ⟨rfl, hb2⟩;have HB2 := hid (hb2.alloc hb2.size (.cells #[.int .u8 kd, .string tx] 98));clear hb2;go_wp2_with fail;go_ret;exact ⟨rfl, HB2.out⟩
theorem CV (A : Nat) : Int.tmod (-(A : Int)) 10 = -((A % 10 : Nat) : Int) := by rw [Int.neg_tmod, Int.tmod_eq_emod_of_nonneg (by omega)]; omega
theorem CX (A : Nat) : Int.tdiv (-(A : Int)) 10 = -((A / 10 : Nat) : Int) := by rw [Int.neg_tdiv, Int.tdiv_eq_ediv_of_nonneg (by omega)]; omega
theorem B3 (d : Nat) (h : d < 10) : IntKind.u8.wrap (48 + (d : Int)) = ((UInt8.ofNat (48 + d)).toNat : Int) := by rw [(Ar.CA d h).2, IntKind.wrap_u8]; omega
def DgR (A u : Nat) (acc : List UInt8) : Prop := Ar.digs A = (if u = 0 then [] else Ar.digs u) ++ acc
theorem DgR.first (A : Nat) : DgR A (A / 10) [UInt8.ofNat (48 + A % 10)] := by
 unfold DgR;by_cases h : A < 10
 ·rw [Ar.AQ A h, if_pos (by omega), Nat.mod_eq_of_lt h]; rfl
 ·rw [Ar.AY A (by omega), if_neg (by omega)]
theorem DgR.next {A u : Nat} {acc : List UInt8} (h : DgR A u acc) (hu : u ≠ 0) : DgR A (u / 10) (UInt8.ofNat (48 + u % 10) :: acc) := by
 have h1 : DgR u (u / 10) [UInt8.ofNat (48 + u % 10)] := DgR.first u
 unfold DgR at *;rw [h, if_neg hu, h1];simp
theorem DgR.last {A : Nat} {acc : List UInt8} (h : DgR A 0 acc) : Ar.digs A = acc := by unfold DgR at h; rw [h, if_pos rfl]; rfl
theorem DgR.len {A u : Nat} {acc : List UInt8} (h : DgR A u acc) (hA : A ≤ 9223372036854775808) : acc.length ≤ 19 := by
 have h1 := BS 18 A (by omega);unfold DgR at h;rw [h, List.length_append] at h1;omega
theorem Cv (W : World) (c : UInt8) : (convert 54 9 (.slice (some ⟨W.heap.size, 0, none⟩) 1 1)).run Tryz.prog (W.alloc (.cells #[.int .u8 (c.toNat : Int)] 5)) = .ok (.string (bstr [c])) (W.alloc (.cells #[.int .u8 (c.toNat : Int)] 5)) := Dg (Eu W c)
theorem DR (n : Int) (w : World) (hn : Ar.inInt n) : Calls Tryz.prog 82 #[.int .i64 n] w fun e w' => e = .returned (.string (bstr (Ar.itoa n))) ∧ Below w.heap.size w w' := by
 obtain ⟨hn1, hn2⟩ := hn;obtain ⟨A, hA⟩ : ∃ A, n.natAbs = A := ⟨_, rfl⟩;have hA9 : A ≤ 9223372036854775808 := by omega
 have hq0 := CX A;have hr0 := CV A;obtain ⟨d0, hd0⟩ : ∃ d, A % 10 = d := ⟨_, rfl⟩;have hdl : d0 < 10 := by omega
 have hb0 := B3 d0 hdl;have HF := hid (DgR.first A);rw [hd0] at hr0 HF;obtain ⟨c, hc⟩ : ∃ c, UInt8.ofNat (48 + d0) = c := ⟨_, rfl⟩;rw [hc] at hb0 HF;obtain ⟨A1, hA1⟩ : ∃ A1, A / 10 = A1 := ⟨_, rfl⟩;rw [hA1] at hq0 HF;have hA1l : A1 ≤ 922337203685477580 := by omega
 have hcv0 := Cv w c;clear hc hd0 hA1;by_cases h0 : n < 0
 ·have HI : Hid (Ar.itoa n = 45 :: Ar.digs A) := hid (by unfold Ar.itoa; rw [if_pos h0, hA]);obtain rfl : n = -(A : Int) := by omega
  have h1 : decide ((A : Int) < 0) = false := decide_eq_false (by omega);have h2 : 0 < A := by omega
  clear hA h0;go_enter Tryz.func82, Tryz.ntmps82;go_wp2_with fail;have HB1 := hid ((Below.refl w.heap.size w).alloc (Nat.le_refl _) (.cells #[.int .u8 (c.toNat : Int)] 5));generalize hw1 : w.alloc (.cells #[.int .u8 (c.toNat : Int)] 5) = w1 at *;clear hw1 hr0 hq0 hb0 hcv0
  go_loopw [3, 4] (fun lx sx wr => ∃ (u : Nat) (acc : List UInt8), lx = .int .i64 (-(u : Int)) ∧ sx = .string (bstr acc) ∧ u ≤ 922337203685477580 ∧ DgR A u acc ∧ Below w.heap.size w wr) (fun lx _ _ => (RowKit.intOf lx).natAbs)
  case atStart => exact ⟨A1, [c], rfl, rfl, hA1l, HF.out, HB1.out⟩
  case round =>
   obtain ⟨u, acc, rfl, rfl, hul, hd, hb⟩ := hrel;have hlen := hd.len hA9;have HD := hid hd;have HB := hid hb;have hbs := hb.size;clear hd hb;by_cases hu : u = 0
   ·subst hu;have HE : Hid (Ar.itoa (-(A : Int)) = 45 :: acc) := hid (by rw [HI.out, HD.out.last]);rw [show -((0 : Nat) : Int) = 0 from rfl];have hss : (bstr acc).size = acc.length := Ai acc;have hov : ¬ 9223372036854775807 < 1 + (bstr acc).size := by omega
    clear HD HI HF HB1;go_wp2_with fail;go_ret;exact ⟨Cw (by rw [HE.out]; exact A5 (by simp [bstr])), HB.out⟩
   ·have HN := hid (HD.out.next hu);have hu0 : ¬ (-(u : Int) = 0) := by omega
    have hq := CX u;have hr := CV u;obtain ⟨d, hd⟩ : ∃ d, u % 10 = d := ⟨_, rfl⟩;have hdl2 : d < 10 := by omega
    have hbt := B3 d hdl2;rw [hd] at hr HN;obtain ⟨c2, hc2⟩ : ∃ c, UInt8.ofNat (48 + d) = c := ⟨_, rfl⟩;rw [hc2] at hbt HN;obtain ⟨u1, hu1⟩ : ∃ u1, u / 10 = u1 := ⟨_, rfl⟩;have HLT : Hid (u1 < u) := hid (by omega);have hu1l : u1 ≤ 922337203685477580 := by omega
    rw [hu1] at hq HN;have hcv := Cv wr c2;have HS : Hid (bstr [c2] ++ bstr acc = bstr (c2 :: acc)) := hid (A5 (by simp [bstr]));have hsz : (bstr acc).size = acc.length := Ai acc;have hsz1 : (bstr [c2]).size = 1 := Ai [c2];have hov : ¬ 9223372036854775807 < (bstr [c2]).size + (bstr acc).size := by omega
    clear hd hc2 hu1;generalize hK1 : bstr [c2] = K1 at *;generalize hK2 : bstr acc = K2 at *;go_wp2_with fail
    go_roundw
    case rel => exact ⟨u1, c2 :: acc, rfl, by rw [← HS.out], hu1l, HN.out, HB.out.alloc hbs _⟩
    case measure => have := HLT.out; simp [RowKit.intOf]; omega
 ·have HI : Hid (Ar.itoa n = Ar.digs A) := hid (by unfold Ar.itoa; rw [if_neg h0, hA]);obtain rfl : n = (A : Int) := by omega
  have h2 : decide ((A : Int) < 0) = false := decide_eq_false h0;clear hA h0;by_cases hz : A = 0
  ·have h1 : ¬ 0 < A := by omega
   rw [show -(A : Int) = (A : Int) from by omega] at hq0 hr0;clear hz;go_enter Tryz.func82, Tryz.ntmps82;go_wp2_with fail;have HB1 := hid ((Below.refl w.heap.size w).alloc (Nat.le_refl _) (.cells #[.int .u8 (c.toNat : Int)] 5));generalize hw1 : w.alloc (.cells #[.int .u8 (c.toNat : Int)] 5) = w1 at *;clear hw1 hr0 hq0 hb0 hcv0
   go_loopw [3, 4] (fun lx sx wr => ∃ (u : Nat) (acc : List UInt8), lx = .int .i64 (-(u : Int)) ∧ sx = .string (bstr acc) ∧ u ≤ 922337203685477580 ∧ DgR A u acc ∧ Below w.heap.size w wr) (fun lx _ _ => (RowKit.intOf lx).natAbs)
   case atStart => exact ⟨A1, [c], rfl, rfl, hA1l, HF.out, HB1.out⟩
   case round =>
    obtain ⟨u, acc, rfl, rfl, hul, hd, hb⟩ := hrel;have hlen := hd.len hA9;have HD := hid hd;have HB := hid hb;have hbs := hb.size;clear hd hb;by_cases hu : u = 0
    ·subst hu;have HE : Hid (Ar.itoa (A : Int) = acc) := hid (by rw [HI.out, HD.out.last]);rw [show -((0 : Nat) : Int) = 0 from rfl];have hss : (bstr acc).size = acc.length := Ai acc;have h3 : decide ((A : Int) < 0) = false := decide_eq_false (by omega);clear HD HI HF HB1;go_wp2_with fail;go_ret;exact ⟨Cw (by rw [HE.out]), HB.out⟩
    ·have HN := hid (HD.out.next hu);have hu0 : ¬ (-(u : Int) = 0) := by omega
     have hq := CX u;have hr := CV u;obtain ⟨d, hd⟩ : ∃ d, u % 10 = d := ⟨_, rfl⟩;have hdl2 : d < 10 := by omega
     have hbt := B3 d hdl2;rw [hd] at hr HN;obtain ⟨c2, hc2⟩ : ∃ c, UInt8.ofNat (48 + d) = c := ⟨_, rfl⟩;rw [hc2] at hbt HN;obtain ⟨u1, hu1⟩ : ∃ u1, u / 10 = u1 := ⟨_, rfl⟩;have HLT : Hid (u1 < u) := hid (by omega);have hu1l : u1 ≤ 922337203685477580 := by omega
     rw [hu1] at hq HN;have hcv := Cv wr c2;have HS : Hid (bstr [c2] ++ bstr acc = bstr (c2 :: acc)) := hid (A5 (by simp [bstr]));have hsz : (bstr acc).size = acc.length := Ai acc;have hsz1 : (bstr [c2]).size = 1 := Ai [c2];have hov : ¬ 9223372036854775807 < (bstr [c2]).size + (bstr acc).size := by omega
     clear hd hc2 hu1;generalize hK1 : bstr [c2] = K1 at *;generalize hK2 : bstr acc = K2 at *;go_wp2_with fail
     go_roundw
     case rel => exact ⟨u1, c2 :: acc, rfl, by rw [← HS.out], hu1l, HN.out, HB.out.alloc hbs _⟩
     case measure => have := HLT.out; simp [RowKit.intOf]; omega
  ·have h1 : 0 < A := by omega
   clear hz;go_enter Tryz.func82, Tryz.ntmps82;go_wp2_with fail;have HB1 := hid ((Below.refl w.heap.size w).alloc (Nat.le_refl _) (.cells #[.int .u8 (c.toNat : Int)] 5));generalize hw1 : w.alloc (.cells #[.int .u8 (c.toNat : Int)] 5) = w1 at *;clear hw1 hr0 hq0 hb0 hcv0
   go_loopw [3, 4] (fun lx sx wr => ∃ (u : Nat) (acc : List UInt8), lx = .int .i64 (-(u : Int)) ∧ sx = .string (bstr acc) ∧ u ≤ 922337203685477580 ∧ DgR A u acc ∧ Below w.heap.size w wr) (fun lx _ _ => (RowKit.intOf lx).natAbs)
   case atStart => exact ⟨A1, [c], rfl, rfl, hA1l, HF.out, HB1.out⟩
   case round =>
    obtain ⟨u, acc, rfl, rfl, hul, hd, hb⟩ := hrel;have hlen := hd.len hA9;have HD := hid hd;have HB := hid hb;have hbs := hb.size;clear hd hb;by_cases hu : u = 0
    ·subst hu;have HE : Hid (Ar.itoa (A : Int) = acc) := hid (by rw [HI.out, HD.out.last]);rw [show -((0 : Nat) : Int) = 0 from rfl];have hss : (bstr acc).size = acc.length := Ai acc;have h3 : decide ((A : Int) < 0) = false := decide_eq_false (by omega);clear HD HI HF HB1;go_wp2_with fail;go_ret;exact ⟨Cw (by rw [HE.out]), HB.out⟩
    ·have HN := hid (HD.out.next hu);have hu0 : ¬ (-(u : Int) = 0) := by omega
     have hq := CX u;have hr := CV u;obtain ⟨d, hd⟩ : ∃ d, u % 10 = d := ⟨_, rfl⟩;have hdl2 : d < 10 := by omega
     have hbt := B3 d hdl2;rw [hd] at hr HN;obtain ⟨c2, hc2⟩ : ∃ c, UInt8.ofNat (48 + d) = c := ⟨_, rfl⟩;rw [hc2] at hbt HN;obtain ⟨u1, hu1⟩ : ∃ u1, u / 10 = u1 := ⟨_, rfl⟩;have HLT : Hid (u1 < u) := hid (by omega);have hu1l : u1 ≤ 922337203685477580 := by omega
     rw [hu1] at hq HN;have hcv := Cv wr c2;have HS : Hid (bstr [c2] ++ bstr acc = bstr (c2 :: acc)) := hid (A5 (by simp [bstr]));have hsz : (bstr acc).size = acc.length := Ai acc;have hsz1 : (bstr [c2]).size = 1 := Ai [c2];have hov : ¬ 9223372036854775807 < (bstr [c2]).size + (bstr acc).size := by omega
     clear hd hc2 hu1;generalize hK1 : bstr [c2] = K1 at *;generalize hK2 : bstr acc = K2 at *;go_wp2_with fail
     go_roundw
     case rel => exact ⟨u1, c2 :: acc, rfl, by rw [← HS.out], hu1l, HN.out, HB.out.alloc hbs _⟩
     case measure => have := HLT.out; simp [RowKit.intOf]; omega
end Go.Proofs.YtchkiegehejfmaaGreatDoor
