/- The texts Ak, Aw1, Aw2, Aw3, Aw4 of this proof, one behind the other. -/
import Derived.BigQuiet
import Derived.Deep.QuietTactic
import Derived.Deep.RegionHeld3
import Derived.Deep.RegionLaw
import Derived.Laws.IdiomStrings
import Derived.Lib.ConvBytes
import Derived.Lib.OthersKept
import Derived.StillTailTactics
import Derived.Test.YteadlcncnhbmjaaGreatDoorProg
import Derived.WalkSmall
import Derived.Test.YteadlcncnhbmjaaGreatDoorMsaf
import Derived.Test.YteadlcncnhbmjaaGreatDoorMsac
import Derived.Test.YteadlcncnhbmjaaGreatDoorMsae
set_option linter.unusedSimpArgs false
set_option maxHeartbeats 16000000
set_option maxRecDepth 100000
set_option linter.unusedVariables false
namespace Go.Proofs.YteadlcncnhbmjaaGreatDoor
open Go.RowKit Go.Lib
theorem Rw : (Tryz.prog.info? 5).map (fun i => (i.zero, i.size, i.bytes)) = some (some (.int .u8 0), 1, 1) := by kernel_rfl
theorem Le : (Tryz.prog.info? 9).map (fun i => (i.zero, i.size, i.bytes)) = some (some (.string ByteArray.empty), 1, 16) := by kernel_rfl
theorem KC : (Tryz.prog.info? 3).map (fun i => (i.zero, i.size, i.bytes)) = some (some (.int .i64 0), 1, 8) := by kernel_rfl
theorem Cf {P : Program} {t : TypeId} {z : Value} {m b : Nat} (h : (P.info? t).map (fun i => (i.zero, i.size, i.bytes)) = some (some z, m, b)) : ∃ i, P.info? t = some i ∧ i.zero = some z ∧ i.size = m ∧ i.bytes = b := by
 cases hi : P.info? t with
 | none => rw [hi] at h; cases h
 | some i =>
  rw [hi] at h;injection h with h;injection h with h1 h;injection h with h2 h3;exact ⟨i, rfl, h1, h2, h3⟩
abbrev OwnB (base : Nat) (w : World) (v : Value) (xs : List UInt8) : Prop := w.ownsRow base 5 1 v xs.length (Bu xs)
abbrev OwnS (base : Nat) (w : World) (v : Value) (ss : List (List UInt8)) : Prop := w.ownsRow base 9 1 v ss.length (strL ss)
theorem IH (ys : List UInt8) : (Bu ys).length = ys.length := List.length_map _
theorem C3 (ys : List (List UInt8)) : (strL ys).length = ys.length := List.length_map _
theorem Rd.lit8 (w : World) (ys : List UInt8) : Rd (w.alloc (.cells (Bu ys).toArray 5)) (some ⟨w.heap.size, 0, none⟩) ys.length (Bu ys) := by
 have := Rd.of_blk (Blk.new w 5 (Bu ys).toArray);rwa [IH] at this
theorem Rd.litS (w : World) (ys : List (List UInt8)) : Rd (w.alloc (.cells (strL ys).toArray 9)) (some ⟨w.heap.size, 0, none⟩) ys.length (strL ys) := by
 have := Rd.of_blk (Blk.new w 9 (strL ys).toArray);rwa [C3] at this
theorem O7 (ty : TypeId) (w : World) (v : Value) (xs ys : List UInt8) (base : Nat) (hown : OwnB base w v xs) (A : Option Addr) (c : Nat) (hr : Rd w A ys.length (Bu ys))
  (hbase : base ≤ w.heap.size) (hlen : xs.length + ys.length ≤ 100000000000) :
  ∃ v' w', (Builtin.append_ #[69, 69] ty #[v, .slice A ys.length c]).run Tryz.prog w = .ok v' w' ∧ OwnB base w' v' (xs ++ ys) ∧ w.grownBy w' v.ownBlock ∧ ∀ w0, Below base w0 w → Below base w0 w' := by
 obtain ⟨iu, hu, zu0, zu1, zu2⟩ := Cf Rw;obtain ⟨v', w', h1, h2, h3⟩ := FQ (P := Tryz.prog) (w := w) 69 ty 5 iu _ 1 Tryz.underlying69 hu zu0 zu1 zu2 rfl base v xs.length (Bu xs) hown A ys.length c (Bu ys) hr (Ow _) (by unfold maxLen; omega) (by omega) hbase;refine ⟨v', w', h1, ?_, h3, fun w0 hb => hb.grown h3 hbase (fun g hg => (hown.lt g hg).1)⟩;show w'.ownsRow base _ 1 _ (xs ++ ys).length (Bu (xs ++ ys));rw [List.length_append, Ja];exact h2
theorem PU (ty : TypeId) (w : World) (v : Value) (xs ys : List (List UInt8)) (base : Nat) (hown : OwnS base w v xs) (A : Option Addr) (c : Nat) (hr : Rd w A ys.length (strL ys))
  (hbase : base ≤ w.heap.size) (hlen : xs.length + ys.length ≤ 1000000000000) :
  ∃ v' w', (Builtin.append_ #[30, 30] ty #[v, .slice A ys.length c]).run Tryz.prog w = .ok v' w' ∧ OwnS base w' v' (xs ++ ys) ∧ w.grownBy w' v.ownBlock ∧ ∀ w0, Below base w0 w → Below base w0 w' := by
 obtain ⟨iu, hu, zu0, zu1, zu2⟩ := Cf Le;obtain ⟨v', w', h1, h2, h3⟩ := FQ (P := Tryz.prog) (w := w) 30 ty 9 iu _ 16 Tryz.underlying30 hu zu0 zu1 zu2 rfl base v xs.length (strL xs) hown A ys.length c (strL ys) hr (Bx _) (by unfold maxLen; omega) (by omega) hbase;refine ⟨v', w', h1, ?_, h3, fun w0 hb => hb.grown h3 hbase (fun g hg => (hown.lt g hg).1)⟩;show w'.ownsRow base _ 1 _ (xs ++ ys).length (strL (xs ++ ys));rw [List.length_append, AJ];exact h2
section
variable {ops : Array Oper} {rest : List Oper} {o : Oper} {a : Act} {Q : Exit → Act → World → Prop} {K : Act → World → Prop} {E : Prop}
theorem M5 (s x : Operand) (ho : o.op = .call { callee := .builtin .append, args := #[s, x], argTypes := #[69, 69] })
  (w : World) (v : Value) (xs ys : List UInt8) (base : Nat) (hs : a.eval s = v) (A : Option Addr) (c : Nat) (hx : a.eval x = .slice A ys.length c) (hown : OwnB base w v xs) (hr : Rd w A ys.length (Bu ys))
  (hbase : base ≤ w.heap.size) (hlen : xs.length + ys.length ≤ 100000000000)
  (h : ∀ v' w', OwnB base w' v' (xs ++ ys) → w.grownBy w' v.ownBlock → (∀ w0, Below base w0 w → Below base w0 w') → K (a.put o.dst v') w') : o.wp Tryz.prog a w K Q := by
 obtain ⟨v', w', hrun, h2, h3, h4⟩ := O7 o.type w v xs ys base hown A c hr hbase hlen;unfold Oper.wp execOp;simp only [ho, resolve, invoke, builtin, Sem.run_bind, Sem.run_pure, Result.andThen_ok, List.map_toArray, List.map_cons, List.map_nil, hs, hx, hrun];exact h v' w' h2 h3 h4
theorem Rx (s x : Operand) (ho : o.op = .call { callee := .builtin .append, args := #[s, x], argTypes := #[30, 30] })
  (w : World) (v : Value) (xs ys : List (List UInt8)) (base : Nat) (hs : a.eval s = v) (A : Option Addr) (c : Nat) (hx : a.eval x = .slice A ys.length c) (hown : OwnS base w v xs) (hr : Rd w A ys.length (strL ys))
  (hbase : base ≤ w.heap.size) (hlen : xs.length + ys.length ≤ 1000000000000)
  (h : ∀ v' w', OwnS base w' v' (xs ++ ys) → w.grownBy w' v.ownBlock → (∀ w0, Below base w0 w → Below base w0 w') → K (a.put o.dst v') w') : o.wp Tryz.prog a w K Q := by
 obtain ⟨v', w', hrun, h2, h3, h4⟩ := PU o.type w v xs ys base hown A c hr hbase hlen;unfold Oper.wp execOp;simp only [ho, resolve, invoke, builtin, Sem.run_bind, Sem.run_pure, Result.andThen_ok, List.map_toArray, List.map_cons, List.map_nil, hs, hx, hrun];exact h v' w' h2 h3 h4
theorem Nl (hgd : o.guard = none) (s x : Operand) (ho : o.op = .call { callee := .builtin .append, args := #[s, x], argTypes := #[69, 69] })
  (w : World) (v : Value) (xs ys : List UInt8) (base : Nat) (hs : a.eval s = v) (A : Option Addr) (c : Nat) (hx : a.eval x = .slice A ys.length c) (hown : OwnB base w v xs) (hr : Rd w A ys.length (Bu ys))
  (hbase : base ≤ w.heap.size) (hlen : xs.length + ys.length ≤ 100000000000)
  (h : ∀ v' w', OwnB base w' v' (xs ++ ys) → w.grownBy w' v.ownBlock → (∀ w0, Below base w0 w → Below base w0 w') → K (a.put o.dst v') w') : if Region.wanted o (yielded ops a.tmps) = true then o.wp Tryz.prog a w K Q else E := by
 have hw : Region.wanted o (yielded ops a.tmps) = true := by simp [Region.wanted, hgd]
 rw [if_pos hw];exact M5 s x ho w v xs ys base hs A c hx hown hr hbase hlen h
theorem JD (hgd : o.guard = none) (s x : Operand) (ho : o.op = .call { callee := .builtin .append, args := #[s, x], argTypes := #[30, 30] })
  (w : World) (v : Value) (xs ys : List (List UInt8)) (base : Nat) (hs : a.eval s = v) (A : Option Addr) (c : Nat) (hx : a.eval x = .slice A ys.length c) (hown : OwnS base w v xs) (hr : Rd w A ys.length (strL ys))
  (hbase : base ≤ w.heap.size) (hlen : xs.length + ys.length ≤ 1000000000000)
  (h : ∀ v' w', OwnS base w' v' (xs ++ ys) → w.grownBy w' v.ownBlock → (∀ w0, Below base w0 w → Below base w0 w') → K (a.put o.dst v') w') : if Region.wanted o (yielded ops a.tmps) = true then o.wp Tryz.prog a w K Q else E := by
 have hw : Region.wanted o (yielded ops a.tmps) = true := by simp [Region.wanted, hgd]
 rw [if_pos hw];exact Rx s x ho w v xs ys base hs A c hx hown hr hbase hlen h
theorem CC (hgd : o.guard = none) (s x : Operand) (ho : o.op = .call { callee := .builtin .append, args := #[s, x], argTypes := #[69, 69] })
  (wr : World) (ys : List UInt8) (v : Value) (xs : List UInt8) (base : Nat) (hs : a.eval s = v) (hown : OwnB base wr v xs) (hx : a.eval x = .slice (some ⟨wr.heap.size, 0, none⟩) ys.length ys.length)
  (hbase : base ≤ wr.heap.size) (hlen : xs.length + ys.length ≤ 100000000000)
  (h : ∀ v' w', OwnB base w' v' (xs ++ ys) → (wr.alloc (.cells (Bu ys).toArray 5)).grownBy w' v.ownBlock → (∀ w0, Below base w0 wr → Below base w0 w') → wpList Tryz.prog ops Q rest (a.put o.dst v') w') :
  wpList Tryz.prog ops Q (o :: rest) a (wr.alloc (.cells (Bu ys).toArray 5)) :=
 wpList_plain hgd fun K hK => M5 s x ho _ v xs ys base hs _ _ hx (hown.alloc _) (Rd.lit8 wr ys) (by simp; omega) hlen fun v' w' h1 h2 h3 => hK _ _ (h v' w' h1 h2 fun w0 hb => h3 w0 (hb.alloc hbase _))
end
theorem Fb {w : World} {base : Nat} {v : Value} {xs : List UInt8} (h : OwnB base w v xs) : (convert 69 9 v).run Tryz.prog w = .ok (.string (bstr xs)) w := by
 obtain ⟨A, cap, rfl⟩ := GX h;exact Hh w _ _ _ Tryz.underlying69 Tryz.underlying5 Tryz.underlying9 A xs.length cap xs (Rd.of_own h)
theorem AQ {w w' : World} {base B size n : Nat} {e : TypeId} {v : Value} {xs : List Value} (h : w.ownsRow base e size v n xs) (hb : Below B w w') (hB : w.heap.size ≤ B) : w'.ownsRow base e size v n xs := by
 obtain ⟨h1, h2⟩ := h;refine ⟨h1, ?_⟩;rcases h2 with h2 | ⟨g, cap, cur, hv, hg, hh, hn, hcap, hsz, ht⟩
 ·exact .inl h2
 ·have hlt : g < w.heap.size := (Array.getElem?_eq_some_iff.1 hh).1;exact .inr ⟨g, cap, cur, hv, hg, (hb.block g (by omega)).trans hh, hn, hcap, hsz, ht⟩
theorem FL {w : World} {base base' n size : Nat} {e : TypeId} {v : Value} {xs : List Value} (h : w.ownsRow base e size v n xs) (hb : base' ≤ base) : w.ownsRow base' e size v n xs := Joins.ownsRow_le h hb
theorem IX (w : World) (c : UInt8) : OwnB w.heap.size (w.alloc (.cells #[.int .u8 (c.toNat : Int)] 5)) (.slice (some ⟨w.heap.size, 0, none⟩) 1 1) [c] :=
 World.ownsRow_lit (base := w.heap.size) (e := 5) (size := 1) w #[.int .u8 (c.toNat : Int)] 1 (Nat.le_refl _) (by decide) rfl
theorem Kx (c : UInt8) (w : World) : Calls Tryz.prog 41 #[.int .u8 (c.toNat : Int)] w fun e w' => e = .returned (.bool (Ar.BI c)) ∧ w = w' := by
 have hc := c.toNat_lt;by_cases h1 : c.toNat < 32
 ·have hp : Ar.BI c = false := decide_eq_false (by omega);have HP := hid hp;clear hp;go_enter Tryz.func41, Tryz.ntmps41;go_wp2_with fail;go_ret;exact ⟨AL HP.out.symm, rfl⟩
 ·by_cases h2 : 126 < c.toNat
  ·have hp : Ar.BI c = false := decide_eq_false (by omega);have HP := hid hp;clear hp;go_enter Tryz.func41, Tryz.ntmps41;go_wp2_with fail;go_ret;exact ⟨AL HP.out.symm, rfl⟩
  ·by_cases h3 : c.toNat = 34
   ·have hp : Ar.BI c = false := decide_eq_false (by omega);have HP := hid hp;have hz : ((c.toNat : Int) != 34) = false := by rw [h3]; rfl
    clear hp h3;go_enter Tryz.func41, Tryz.ntmps41;go_wp2_with fail;go_ret;exact ⟨AL HP.out.symm, rfl⟩
   ·have hz : ((c.toNat : Int) != 34) = true := by rw [bne_iff_ne]; omega
    by_cases h4 : c.toNat = 92
    ·have hp : Ar.BI c = false := decide_eq_false (by omega);have HP := hid hp;have hy : ((c.toNat : Int) != 92) = false := by rw [h4]; rfl
     clear hp h4 h3;go_enter Tryz.func41, Tryz.ntmps41;go_wp2_with fail;go_ret;exact ⟨AL HP.out.symm, rfl⟩
    ·have hy : ((c.toNat : Int) != 92) = true := by rw [bne_iff_ne]; omega
     have hp : Ar.BI c = true := decide_eq_true (by omega);have HP := hid hp;clear hp h4 h3;go_enter Tryz.func41, Tryz.ntmps41;go_wp2_with fail;go_ret;exact ⟨AL HP.out.symm, rfl⟩
theorem and15 : ∀ n : Nat, n < 256 → bits BinOp.and IntKind.u8 (n : Int) 15 = (n : Int) % 16 := by decide +kernel
theorem RN : ∀ n : Nat, n < 16 → (⟨#[48, 49, 50, 51, 52, 53, 54, 55, 56, 57, 97, 98, 99, 100, 101, 102]⟩ : ByteArray).data.toList[n]? = some (Ar.hexd n) := by decide +kernel
theorem MZ (i : Int) (n : Nat) (h1 : i = (n : Int)) (hn : n < 16) (h : i.toNat < (⟨#[48, 49, 50, 51, 52, 53, 54, 55, 56, 57, 97, 98, 99, 100, 101, 102]⟩ : ByteArray).size) : (⟨#[48, 49, 50, 51, 52, 53, 54, 55, 56, 57, 97, 98, 99, 100, 101, 102]⟩ : ByteArray)[i.toNat]'h = Ar.hexd n := by
 obtain rfl : n = i.toNat := by omega
 have h2 := RN i.toNat hn;have h3 := CS ⟨#[48, 49, 50, 51, 52, 53, 54, 55, 56, 57, 97, 98, 99, 100, 101, 102]⟩ i.toNat h;rw [h2] at h3;injection h3 with h3;exact h3.symm
def qk (l : List UInt8) (k : Nat) : List UInt8 := 34 :: (l.take k).flatMap Ar.esc
theorem MH {l : List UInt8} {k : Nat} {c : UInt8} (h : l[k]? = some c) : qk l (k + 1) = qk l k ++ Ar.esc c := by
 unfold qk;rw [BF h, List.flatMap_append, List.flatMap_cons, List.flatMap_nil, List.append_nil];rfl
theorem PD (l : List UInt8) : qk l l.length ++ [34] = Ar.quote l := by
 unfold qk Ar.quote;rw [List.take_of_length_le (Nat.le_refl _)];rfl
theorem IY (l : List UInt8) (k : Nat) : (qk l k).length ≤ 4 * k + 1 := by
 unfold qk;have h1 := Ar.Ic (l.take k);have h2 : (l.take k).length ≤ k := List.length_take_le _ _;rw [List.length_cons];omega
theorem C5 (s : ByteArray) (w : World) (hs : s.size ≤ 1000000) :
  Calls Tryz.prog 14 #[.string s] w fun e w' => e = .returned (.string (bstr (Ar.quote s.data.toList))) ∧ Below w.heap.size w w' := by
 have hb1 : Below w.heap.size w (w.alloc (.cells #[.int .u8 34] 5)) := (Below.refl _ _).alloc (Nat.le_refl _) _;have ho1 : OwnB w.heap.size (w.alloc (.cells #[.int .u8 34] 5)) (.slice (some ⟨w.heap.size, 0, none⟩) 1 1) [34] := IX w 34;have HL := hid (AI s);have HAT : Hid (∀ k (h : k < s.size), s.data.toList[k]? = some s[k]) := hid (CS s);have HB1 := hid hb1;have HO1 := hid ho1;clear hb1 ho1;go_enter Tryz.func14, Tryz.ntmps14;go_wp2_with fail
 go_loopw [3, 9] (fun out ix wr => ∃ k : Nat, k ≤ s.size ∧ ix = .int .i64 k ∧ OwnB w.heap.size wr out (qk s.data.toList k) ∧ Below w.heap.size w wr) (fun _ ix _ => s.size - (RowKit.intOf ix).toNat)
 case atStart => exact ⟨0, Nat.zero_le _, rfl, by simpa [qk] using HO1.out, HB1.out⟩
 case round =>
  obtain ⟨k, hk, rfl, ho, hb⟩ := hrel;by_cases hlt : k < s.size
  ·have hc := HAT.out k hlt;have HST := hid (MH hc);have hql := IY s.data.toList k;have hc2 := (s[k]'hlt).toNat_lt;have hbs := hb.size;have HO := hid ho;have HB := hid hb;have HBA := hid (fun w => Kx (s[k]'hlt) w);clear hc ho hb;by_cases h1 : (s[k]'hlt).toNat = 34
   ·have hz : (((s[k]'hlt).toNat : Int) == 34) = true := by rw [h1]; rfl
    have HE : Hid (Ar.esc (s[k]'hlt) = [92, s[k]'hlt]) := hid (by unfold Ar.esc; rw [if_pos (.inl h1)]);clear h1;go_wp2_with (at_builtin; refine CC rfl _ _ rfl wr [92, s[k]'hlt] u3 (qk s.data.toList k) w.heap.size rfl HO.out rfl hbs (by simp; omega) ?_; intro v2 w2 ho2 hg2 hb2)
    go_roundw
    case rel => exact ⟨k + 1, by omega, by go_num, by rw [HST.out, HE.out]; exact ho2, hb2 _ HB.out⟩
    case measure => simp [RowKit.intOf]; omega
   ·have hz : (((s[k]'hlt).toNat : Int) == 34) = false := by rw [beq_eq_false_iff_ne]; omega
    by_cases h2 : (s[k]'hlt).toNat = 92
    ·have hy : (((s[k]'hlt).toNat : Int) == 92) = true := by rw [h2]; rfl
     have HE : Hid (Ar.esc (s[k]'hlt) = [92, s[k]'hlt]) := hid (by unfold Ar.esc; rw [if_pos (.inr h2)]);clear h1 h2;go_wp2_with (at_builtin; refine CC rfl _ _ rfl wr [92, s[k]'hlt] u3 (qk s.data.toList k) w.heap.size rfl HO.out rfl hbs (by simp; omega) ?_; intro v2 w2 ho2 hg2 hb2)
     go_roundw
     case rel => exact ⟨k + 1, by omega, by go_num, by rw [HST.out, HE.out]; exact ho2, hb2 _ HB.out⟩
     case measure => simp [RowKit.intOf]; omega
    ·have hy : (((s[k]'hlt).toNat : Int) == 92) = false := by rw [beq_eq_false_iff_ne]; omega
     by_cases h3 : (s[k]'hlt).toNat = 10
     ·have hx : (((s[k]'hlt).toNat : Int) == 10) = true := by rw [h3]; rfl
      have HE : Hid (Ar.esc (s[k]'hlt) = [92, 110]) := hid (by unfold Ar.esc; rw [if_neg (by omega), if_pos h3]);clear h1 h2 h3;go_wp2_with (at_builtin; refine CC rfl _ _ rfl wr [92, 110] u3 (qk s.data.toList k) w.heap.size rfl HO.out rfl hbs (by simp; omega) ?_; intro v2 w2 ho2 hg2 hb2)
      go_roundw
      case rel => exact ⟨k + 1, by omega, by go_num, by rw [HST.out, HE.out]; exact ho2, hb2 _ HB.out⟩
      case measure => simp [RowKit.intOf]; omega
     ·have hx : (((s[k]'hlt).toNat : Int) == 10) = false := by rw [beq_eq_false_iff_ne]; omega
      by_cases h4 : Ar.BI (s[k]'hlt) = true
      ·have HE : Hid (Ar.esc (s[k]'hlt) = [s[k]'hlt]) := hid (by unfold Ar.esc; rw [if_neg (by omega), if_neg h3, if_pos h4]);have HP := hid h4;clear h1 h2 h3 h4
       go_wp2_with (first
        | (go_at_call 41; refine (HBA.out _).mono ?_; rintro e w' ⟨rfl, rfl⟩; rw [HP.out])
        | (at_builtin; refine CC rfl _ _ rfl wr [s[k]'hlt] u3 (qk s.data.toList k) w.heap.size rfl HO.out rfl hbs (by simp; omega) ?_; intro v2 w2 ho2 hg2 hb2))
       go_roundw
       case rel => exact ⟨k + 1, by omega, by go_num, by rw [HST.out, HE.out]; exact ho2, hb2 _ HB.out⟩
       case measure => simp [RowKit.intOf]; omega
      ·have HE : Hid (Ar.esc (s[k]'hlt) = [92, 120, Ar.hexd ((s[k]'hlt).toNat / 16), Ar.hexd ((s[k]'hlt).toNat % 16)]) := hid (by unfold Ar.esc; rw [if_neg (by omega), if_neg h3, if_neg h4]);have HP : Hid (Ar.BI (s[k]'hlt) = false) := hid (by simpa using h4);clear h1 h2 h3 h4;go_wp2_with (go_at_call 41; refine (HBA.out _).mono ?_; rintro e w' ⟨rfl, rfl⟩; rw [HP.out]);have hI1 : 0 ≤ ((s[k]'hlt).toNat : Int) / 16 := by omega
       have hI2 : ((s[k]'hlt).toNat : Int) / 16 < 16 := by omega
       have hI3 : 0 ≤ ((s[k]'hlt).toNat : Int) % 16 := by omega
       have hI4 : ((s[k]'hlt).toNat : Int) % 16 < 16 := by omega
       have hx1 := fun h => MZ (((s[k]'hlt).toNat : Int) / 16) ((s[k]'hlt).toNat / 16) (by omega) (by omega) h
       have hx2 := fun h => MZ (((s[k]'hlt).toNat : Int) % 16) ((s[k]'hlt).toNat % 16) (by omega) (by omega) h
       have hB15 := and15 (s[k]'hlt).toNat (by omega)
       go_region_law (first | (refine Nl rfl _ _ rfl _ u3 (qk s.data.toList k) [92, 120, Ar.hexd ((s[k]'hlt).toNat / 16), Ar.hexd ((s[k]'hlt).toNat % 16)] w.heap.size rfl _ _ rfl (HO.out.alloc _) (Rd.lit8 wr _) (by simp; omega) (by simp; omega) ?_; intro v2 w2 ho2 hg2 hb2))
       all_goals
        clear hx1 hx2 hB15;go_wp2_with fail
        go_roundw
        case rel => exact ⟨k + 1, by omega, by go_num, by rw [HST.out, HE.out]; exact ho2, hb2 _ ((HB.out.alloc hbs _).drew)⟩
        case measure => simp [RowKit.intOf]; omega
  ·obtain rfl : k = s.size := by omega
   have HALL : Hid (qk s.data.toList s.size ++ [34] = Ar.quote s.data.toList) := hid (by rw [HL.out]; exact PD _);have hql := IY s.data.toList s.size;have hbs := hb.size;have HO := hid ho;have HB := hid hb;clear ho hb
   go_wp2_with (first
    | (at_builtin; refine CC rfl _ _ rfl wr [34] u3 (qk s.data.toList s.size) w.heap.size rfl HO.out rfl hbs (by simp; omega) ?_; intro v2 w2 ho2 hg2 hb2; have hcv := Fb ho2))
   go_ret;exact ⟨AM (by rw [HALL.out]), hb2 _ HB.out⟩
theorem OQ : ∀ n : Nat, n < 256 → Lib.indexByte [48, 49, 50, 51, 52, 53, 54, 55, 56, 57, 97, 98, 99, 100, 101, 102] (UInt8.ofNat n) = match Ar.digv (UInt8.ofNat n) with | some v => (v : Int) | none => -1 := by decide +kernel
theorem GA (c : UInt8) (w : World) : Calls Tryz.prog 101 #[.string ⟨#[48, 49, 50, 51, 52, 53, 54, 55, 56, 57, 97, 98, 99, 100, 101, 102]⟩, .int .u8 (c.toNat : Int)] w fun e w' => e = .returned (.int .i64 (match Ar.digv c with | some v => (v : Int) | none => -1)) ∧ w' = w := by
 refine (Tryz.strings_IndexByte _ _ w).mono ?_;rintro e w' ⟨rfl, rfl⟩;refine ⟨Cq ?_, rfl⟩;have h := OQ c.toNat c.toNat_lt;rw [UInt8.ofNat_toNat] at h;rw [← h, Int.toNat_natCast];show Lib.indexByte _ (UInt8.ofNat c.toNat) = _;rw [UInt8.ofNat_toNat]
def escF (l : List UInt8) : UInt8 × Nat := match l with
 | _ :: d :: r => if d.toNat = 34 ∨ d.toNat = 92 then (d, 2) else if d.toNat = 110 then (10, 2) else if d.toNat ≠ 120 then (0, 0) else
  match r with
  | h :: l :: _ => match Ar.digv h, Ar.digv l with
   | some a, some b => if (32 ≤ 16 * a + b ∧ 16 * a + b ≤ 126) ∨ 16 * a + b = 10 then (0, 0) else (UInt8.ofNat (16 * a + b), 4)
   | _, _ => (0, 0)
  | _ => (0, 0)
 | _ => (0, 0)
theorem Pk (r : List UInt8) (c : UInt8) (h : c.toNat = 92) : Ar.tok (c :: r) = if (escF (c :: r)).2 = 0 then none else some (escF (c :: r)) := by
 have hp : Ar.BI c = false := decide_eq_false (by omega);rw [Ar.CG, hp, if_neg (by decide), if_neg (by omega)];unfold escF
 cases r with
 | nil => rfl
 | cons d r =>
  simp only;split
  ·rfl
  ·split
   ·rfl
   ·split
    ·rfl
    ·cases r with
     | nil => rfl
     | cons h r =>
      cases r with
      | nil => rfl
      | cons l r =>
       simp only
       cases Ar.digv h with
       | none => rfl
       | some a => cases Ar.digv l with
        | none => rfl
        | some b =>
         simp only;split <;> rfl
theorem CV {a b : Int} {c d : Int} (h1 : a = c) (h2 : b = d) : Ending.returned (.tuple #[.int .u8 a, .int .i64 b]) = .returned (.tuple #[.int .u8 c, .int .i64 d]) := by rw [h1, h2]
theorem or16 : ∀ a : Nat, a < 16 → ∀ b : Nat, b < 16 → bits BinOp.or IntKind.i64 ((a : Int) * 16) (b : Int) = ((16 * a + b : Nat) : Int) := by decide +kernel
theorem LX (s : ByteArray) (w : World) (hs : s.size ≤ 1000000) :
  Calls Tryz.prog 42 #[.string s] w fun e w' => e = .returned (.tuple #[.int .u8 ((escF s.data.toList).1.toNat : Int), .int .i64 ((escF s.data.toList).2 : Nat)]) ∧ ∃ q, w' = w.drewN q := by
 by_cases h2 : s.size < 2
 ·have HE : Hid (escF s.data.toList = (0, 0)) := hid (by
   have hl := AI s;unfold escF
   cases h : s.data.toList with
   | nil => rfl
   | cons a r => cases r with
    | nil => rfl
    | cons b r => rw [h] at hl; simp at hl; omega)
  go_enter Tryz.func42, Tryz.ntmps42;go_wp2_with fail
  go_ret2
  exact ⟨CV (by rw [HE.out]; rfl) (by rw [HE.out]; rfl), 0, rfl⟩
 ·obtain ⟨c, d, r, hl⟩ : ∃ c d r, s.data.toList = c :: d :: r := by
   have hl := AI s
   cases h : s.data.toList with
   | nil => rw [h] at hl; simp only [List.length_nil] at hl; omega
   | cons a r => cases r with
    | nil => rw [h] at hl; simp only [List.length_nil, List.length_cons] at hl; omega
    | cons b r => exact ⟨a, b, r, rfl⟩
  have hlt1 : 1 < s.size := by omega
  have hd1 : s[1]'hlt1 = d := by
   have h := CS s 1 hlt1;rw [hl] at h;injection h with h;exact h.symm
  have hrl : s.size = r.length + 2 := by rw [AI, hl]; rfl
  have hd := d.toNat_lt;by_cases h34 : d.toNat = 34
  ·have HE : Hid (escF s.data.toList = (d, 2)) := hid (by rw [hl]; unfold escF; simp only; rw [if_pos (.inl h34)]);have hz : ((d.toNat : Int) == 34) = true := by rw [h34]; rfl
   clear hl hrl h34;go_enter Tryz.func42, Tryz.ntmps42;go_wp2_with fail
   go_ret2
   exact ⟨CV (by rw [HE.out]) (by rw [HE.out]; rfl), 0, rfl⟩
  ·have hz : ((d.toNat : Int) == 34) = false := by rw [beq_eq_false_iff_ne]; omega
   by_cases h92 : d.toNat = 92
   ·have HE : Hid (escF s.data.toList = (d, 2)) := hid (by rw [hl]; unfold escF; simp only; rw [if_pos (.inr h92)]);have hy : ((d.toNat : Int) == 92) = true := by rw [h92]; rfl
    clear hl hrl h34 h92;go_enter Tryz.func42, Tryz.ntmps42;go_wp2_with fail
    go_ret2
    exact ⟨CV (by rw [HE.out]) (by rw [HE.out]; rfl), 0, rfl⟩
   ·have hy : ((d.toNat : Int) == 92) = false := by rw [beq_eq_false_iff_ne]; omega
    by_cases h110 : d.toNat = 110
    ·have HE : Hid (escF s.data.toList = (10, 2)) := hid (by rw [hl]; unfold escF; simp only; rw [if_neg (by omega), if_pos h110]);have hx : ((d.toNat : Int) == 110) = true := by rw [h110]; rfl
     clear hl hrl h34 h92 h110;go_enter Tryz.func42, Tryz.ntmps42;go_wp2_with fail
     go_ret2
     exact ⟨CV (by rw [HE.out]; rfl) (by rw [HE.out]; rfl), 0, rfl⟩
    ·have hx : ((d.toNat : Int) == 110) = false := by rw [beq_eq_false_iff_ne]; omega
     by_cases h120 : d.toNat = 120
     ·have hu : ((d.toNat : Int) == 120) = true := by rw [h120]; rfl
      by_cases h4 : s.size < 4
      ·have HE : Hid (escF s.data.toList = (0, 0)) := hid (by
        rw [hl]; unfold escF; simp only;rw [if_neg (by omega), if_neg h110, if_neg (by omega)]
        cases r with
        | nil => rfl
        | cons a r => cases r with
         | nil => rfl
         | cons b r => simp at hrl; omega)
       clear hl hrl h34 h92 h110 h120;go_enter Tryz.func42, Tryz.ntmps42;go_wp2_with fail
       go_ret2
       exact ⟨CV (by rw [HE.out]; rfl) (by rw [HE.out]; rfl), 0, rfl⟩
      ·obtain ⟨x, y, r2, hr2⟩ : ∃ x y r2, r = x :: y :: r2 := by
        cases r with
        | nil => simp at hrl; omega
        | cons a r => cases r with
         | nil => simp at hrl; omega
         | cons b r => exact ⟨a, b, r, rfl⟩
       subst hr2;have hlt2 : 2 < s.size := by omega
       have hlt3 : 3 < s.size := by omega
       have hx2 : s[2]'hlt2 = x := by
        have h := CS s 2 hlt2;rw [hl] at h;injection h with h;exact h.symm
       have hx3 : s[3]'hlt3 = y := by
        have h := CS s 3 hlt3;rw [hl] at h;injection h with h;exact h.symm
       have hfe : escF s.data.toList = match Ar.digv x, Ar.digv y with
         | some a, some b => if (32 ≤ 16 * a + b ∧ 16 * a + b ≤ 126) ∨ 16 * a + b = 10 then (0, 0) else (UInt8.ofNat (16 * a + b), 4)
         | _, _ => (0, 0) := by
        rw [hl]; unfold escF; simp only;rw [if_neg (by omega), if_neg h110, if_neg (by omega)]
       have HFE := hid hfe;have hxn := x.toNat_lt;have hyn := y.toNat_lt;clear hl hrl h34 h92 h110 h120 hfe
       cases hdx : Ar.digv x with
       | none =>
        have HX : Hid (∀ w, Calls Tryz.prog 101 #[.string ⟨#[48, 49, 50, 51, 52, 53, 54, 55, 56, 57, 97, 98, 99, 100, 101, 102]⟩, .int .u8 (x.toNat : Int)] w fun e w' => e = .returned (.int .i64 (-1)) ∧ w' = w) := hid (fun w => by have := GA x w; rw [hdx] at this; exact this);have HY : Hid (∀ w, Calls Tryz.prog 101 #[.string ⟨#[48, 49, 50, 51, 52, 53, 54, 55, 56, 57, 97, 98, 99, 100, 101, 102]⟩, .int .u8 (y.toNat : Int)] w fun e w' => e = .returned (.int .i64 (match Ar.digv y with | some v => (v : Int) | none => -1)) ∧ w' = w) := hid (GA y);have HE : Hid (escF s.data.toList = (0, 0)) := hid (by rw [HFE.out, hdx]);clear hdx HFE;generalize (match Ar.digv y with | some v => (v : Int) | none => -1) = vy at *;go_enter Tryz.func42, Tryz.ntmps42;go_wp2_with fail
        go_quiet ((first | (go_at_call_of 101 (Value.int .u8 (x.toNat : Int)); exact Calls.quiet_of_same (HX.out _)) | (go_at_call 101; exact Calls.quiet_of_same (HY.out _))))
        go_wp2_with fail
        go_ret2
        exact ⟨CV (by rw [HE.out]; rfl) (by rw [HE.out]; rfl), _, rfl⟩
       | some a =>
        have ha := (Ar.Fo hdx).1;have HX : Hid (∀ w, Calls Tryz.prog 101 #[.string ⟨#[48, 49, 50, 51, 52, 53, 54, 55, 56, 57, 97, 98, 99, 100, 101, 102]⟩, .int .u8 (x.toNat : Int)] w fun e w' => e = .returned (.int .i64 (a : Int)) ∧ w' = w) := hid (fun w => by have := GA x w; rw [hdx] at this; exact this)
        cases hdy : Ar.digv y with
        | none =>
         have HY : Hid (∀ w, Calls Tryz.prog 101 #[.string ⟨#[48, 49, 50, 51, 52, 53, 54, 55, 56, 57, 97, 98, 99, 100, 101, 102]⟩, .int .u8 (y.toNat : Int)] w fun e w' => e = .returned (.int .i64 (-1)) ∧ w' = w) := hid (fun w => by have := GA y w; rw [hdy] at this; exact this);have HE : Hid (escF s.data.toList = (0, 0)) := hid (by rw [HFE.out, hdx, hdy]);have hxy : x ≠ y := by intro e; rw [e, hdy] at hdx; cases hdx
         have hxy2 : (x.toNat : Int) ≠ (y.toNat : Int) := fun e => hxy (UInt8.toNat_inj.1 (by omega))
         clear hdx hdy HFE hxy hxy2;go_enter Tryz.func42, Tryz.ntmps42;go_wp2_with fail
         go_quiet ((first | (go_at_call_of 101 (Value.int .u8 (x.toNat : Int)); exact Calls.quiet_of_same (HX.out _)) | (go_at_call 101; exact Calls.quiet_of_same (HY.out _))))
         go_wp2_with fail
         go_ret2
         exact ⟨CV (by rw [HE.out]; rfl) (by rw [HE.out]; rfl), _, rfl⟩
        | some b =>
         have hb := (Ar.Fo hdy).1;have HY : Hid (∀ w, Calls Tryz.prog 101 #[.string ⟨#[48, 49, 50, 51, 52, 53, 54, 55, 56, 57, 97, 98, 99, 100, 101, 102]⟩, .int .u8 (y.toNat : Int)] w fun e w' => e = .returned (.int .i64 (b : Int)) ∧ w' = w) := hid (fun w => by have := GA y w; rw [hdy] at this; exact this);have hor := or16 a ha b hb;have hfe : escF s.data.toList = if (32 ≤ 16 * a + b ∧ 16 * a + b ≤ 126) ∨ 16 * a + b = 10 then (0, 0) else (UInt8.ofNat (16 * a + b), 4) := by rw [HFE.out, hdx, hdy]
         obtain ⟨v, hv⟩ : ∃ v, 16 * a + b = v := ⟨_, rfl⟩;rw [hv] at hfe hor;have hv2 : v < 256 := by omega
         have HFE2 := hid hfe;have HV := hid hv;clear hdx hdy HFE hfe hv;by_cases hk : (32 ≤ v ∧ v ≤ 126) ∨ v = 10
         ·have HE : Hid (escF s.data.toList = (0, 0)) := hid (by rw [HFE2.out, if_pos hk]);by_cases h10 : v = 10
          ·have hq : ((v : Int) == 10) = true := by rw [h10]; rfl
           clear h10 hk HFE2;go_enter Tryz.func42, Tryz.ntmps42;go_wp2_with fail
           go_quiet ((first | (go_at_call_of 101 (Value.int .u8 (x.toNat : Int)); exact Calls.quiet_of_same (HX.out _)) | (go_at_call 101; exact Calls.quiet_of_same (HY.out _))))
           go_wp2_with fail
           go_ret2
           exact ⟨CV (by rw [HE.out]; rfl) (by rw [HE.out]; rfl), _, rfl⟩
          ·have hq : ((v : Int) == 10) = false := by rw [beq_eq_false_iff_ne]; omega
           have hv3 : 32 ≤ v ∧ v ≤ 126 := by omega
           obtain ⟨hv4, hv5⟩ := hv3;clear h10 hk HFE2;go_enter Tryz.func42, Tryz.ntmps42;go_wp2_with fail
           go_quiet ((first | (go_at_call_of 101 (Value.int .u8 (x.toNat : Int)); exact Calls.quiet_of_same (HX.out _)) | (go_at_call 101; exact Calls.quiet_of_same (HY.out _))))
           go_wp2_with fail
           go_ret2
           exact ⟨CV (by rw [HE.out]; rfl) (by rw [HE.out]; rfl), _, rfl⟩
         ·have HE : Hid (escF s.data.toList = (UInt8.ofNat v, 4)) := hid (by rw [HFE2.out, if_neg hk]);have HVN : Hid (((UInt8.ofNat v).toNat : Int) = (v : Int)) := hid (by rw [UInt8.toNat_ofNat']; omega);have hq : ((v : Int) == 10) = false := by rw [beq_eq_false_iff_ne]; omega
          have hv3 : v < 32 ∨ 126 < v := by omega
          clear hk HFE2;by_cases hv6 : v < 32
          ·clear hv3;go_enter Tryz.func42, Tryz.ntmps42;go_wp2_with fail
           go_quiet ((first | (go_at_call_of 101 (Value.int .u8 (x.toNat : Int)); exact Calls.quiet_of_same (HX.out _)) | (go_at_call 101; exact Calls.quiet_of_same (HY.out _))))
           go_wp2_with fail
           go_ret2
           exact ⟨CV (by rw [HE.out]; exact HVN.out.symm) (by rw [HE.out]; rfl), _, rfl⟩
          ·have hv7 : 126 < v := by omega
           have hv8 : 32 ≤ v := by omega
           clear hv3 hv6;go_enter Tryz.func42, Tryz.ntmps42;go_wp2_with fail
           go_quiet ((first | (go_at_call_of 101 (Value.int .u8 (x.toNat : Int)); exact Calls.quiet_of_same (HX.out _)) | (go_at_call 101; exact Calls.quiet_of_same (HY.out _))))
           go_wp2_with fail
           go_ret2
           exact ⟨CV (by rw [HE.out]; exact HVN.out.symm) (by rw [HE.out]; rfl), _, rfl⟩
     ·have hu : ((d.toNat : Int) == 120) = false := by rw [beq_eq_false_iff_ne]; omega
      have HE : Hid (escF s.data.toList = (0, 0)) := hid (by
        rw [hl]; unfold escF; simp only
        rw [if_neg (by omega), if_neg h110, if_pos h120])
      clear hl hrl h34 h92 h110 h120;go_enter Tryz.func42, Tryz.ntmps42;go_wp2_with fail
      go_ret2
      exact ⟨CV (by rw [HE.out]; rfl) (by rw [HE.out]; rfl), 0, rfl⟩
def UqRel (l : List UInt8) (i : Nat) (out : List UInt8) : Prop := Ar.unq (l.drop 1) = (Ar.unq (l.drop i)).map fun p => (out ++ p.1, p.2)
theorem J7 {l : List UInt8} {i : Nat} {out : List UInt8} (h : UqRel l i out) (h2 : Ar.unq (l.drop i) = none) : Ar.unq (l.drop 1) = none := by rw [h, h2]; rfl
theorem Qe {l : List UInt8} {i : Nat} {out : List UInt8} {c : UInt8} (h : UqRel l i out) (hc : l[i]? = some c) (h34 : c.toNat = 34) : Ar.unq (l.drop 1) = some (out, l.drop (i + 1)) := by
 obtain ⟨hi, e⟩ := List.getElem?_eq_some_iff.1 hc;rw [h, List.drop_eq_getElem_cons hi, e, Ar.J4 _ _ h34];simp
theorem ER {l : List UInt8} {i k : Nat} {out : List UInt8} {c b : UInt8} (h : UqRel l i out) (hc : l[i]? = some c) (h34 : c.toNat ≠ 34) (ht : Ar.tok (l.drop i) = some (b, k)) : UqRel l (i + k) (out ++ [b]) := by
 obtain ⟨hi, e⟩ := List.getElem?_eq_some_iff.1 hc;unfold UqRel at *;rw [h, Ar.I7 (l.drop i) b k (by rw [List.drop_eq_getElem_cons hi, e]; intro d hd; injection hd with hd; subst hd; exact h34) ht, List.drop_drop]
 cases Ar.unq (l.drop (i + k)) with
 | none => rfl
 | some p => simp
theorem Gd {l : List UInt8} {i : Nat} {out : List UInt8} {c : UInt8} (h : UqRel l i out) (hc : l[i]? = some c) (h34 : c.toNat ≠ 34) (ht : Ar.tok (l.drop i) = none) : Ar.unq (l.drop 1) = none := by
 obtain ⟨hi, e⟩ := List.getElem?_eq_some_iff.1 hc;exact J7 h (Ar.M0 _ (by rw [List.drop_eq_getElem_cons hi, e]; intro d hd; injection hd with hd; subst hd; exact h34) ht)
def uqV (r : Option (List UInt8 × List UInt8)) : Value := match r with
 | some p => .tuple #[.string (bstr p.1), .string (bstr p.2), .bool true]
 | none => .tuple #[.string ⟨#[]⟩, .string ⟨#[]⟩, .bool false]
theorem EQ (s : ByteArray) (a b : Nat) : (s.extract a b).data.toList = (s.data.toList.drop a).take (b - a) := by
 rw [ByteArray.data_extract, Array.toList_extract]
theorem EB (s : ByteArray) (k : Nat) : (s.extract k s.size).data.toList = s.data.toList.drop k := by
 rw [EQ, List.take_of_length_le];rw [List.length_drop, ← AI];exact Nat.le_refl _
theorem BA (s : ByteArray) (k : Nat) : s.extract k s.size = bstr (s.data.toList.drop k) := Bg (by rw [EB]; rfl)
theorem Pp (s : ByteArray) (k : Nat) : (s.extract k s.size).size = s.size - k := by rw [AI, EB, List.length_drop, ← AI]
theorem Gr (c : UInt8) (r : List UInt8) (h : c.toNat = 34) : Ar.At (c :: r) = Ar.unq r := by show (if c.toNat = 34 then Ar.unq r else none) = _; rw [if_pos h]
theorem IF (c : UInt8) (r : List UInt8) (h : c.toNat ≠ 34) : Ar.At (c :: r) = none := by show (if c.toNat = 34 then Ar.unq r else none) = _; rw [if_neg h]
theorem Jy (s : ByteArray) (h : 0 < s.size) : s.data.toList = s[0] :: s.data.toList.drop 1 := by
 have h1 := CS s 0 h;obtain ⟨h2, h3⟩ := List.getElem?_eq_some_iff.1 h1;rw [← h3];exact (List.drop_eq_getElem_cons h2)
theorem CR {x y : Option (List UInt8 × List UInt8)} {v : Value} (h : v = uqV y) (e : x = y) : Ending.returned v = .returned (uqV x) := by rw [h, e]
theorem Jm {s : ByteArray} (h : s.size = 0) : s = ⟨#[]⟩ := Bg (by have := AI s; rw [h] at this; exact List.eq_nil_of_length_eq_zero this.symm)
theorem Hj (s : ByteArray) (w : World) (hs : s.size ≤ 1000000) :
  Calls Tryz.prog 15 #[.string s] w fun e w' => e = .returned (uqV (Ar.At s.data.toList)) ∧ Below w.heap.size w w' := by
 by_cases h0 : s.size = 0
 ·obtain rfl := Jm h0;clear h0;go_enter Tryz.func15, Tryz.ntmps15;go_wp2_with fail
  go_ret3
  exact ⟨rfl, Below.refl _ _⟩
 ·have hp : 0 < s.size := by omega
  have hne : s.toList ≠ [] := by
   intro e;have := AI s;rw [Lib.toList_data] at e;rw [e] at this;simp only [List.length_nil] at this;omega
  have hz0 : (s.toList == []) = false := by simpa using hne
  have hlh := Jy s hp;have HLH := hid hlh;clear hlh hne h0;have hc0 := (s[0]'hp).toNat_lt;by_cases h34 : (s[0]'hp).toNat = 34
  ·have hz : (((s[0]'hp).toNat : Int) != 34) = false := by rw [h34]; rfl
   have HU : Hid (Ar.At s.data.toList = Ar.unq (s.data.toList.drop 1)) := hid (by
    have h1 := Gr (s[0]'hp) (s.data.toList.drop 1) h34
    rwa [← HLH.out] at h1)
   have HAT : Hid (∀ k (h : k < s.size), s.data.toList[k]? = some s[k]) := hid (CS s);have HSZ := hid (AI s);clear h34;go_enter Tryz.func15, Tryz.ntmps15;go_wp2_with fail
   go_loopw [5, 6] (fun out ix wr => ∃ (k : Nat) (ol : List UInt8), k ≤ s.size ∧ ix = .int .i64 k ∧ OwnB w.heap.size wr out ol ∧ Hid (UqRel s.data.toList k ol) ∧ ol.length ≤ k ∧ Below w.heap.size w wr) (fun _ ix _ => s.size - (RowKit.intOf ix).toNat)
   case atStart => exact ⟨1, [], by omega, rfl, RD _ _ _, hid (by unfold UqRel; cases Ar.unq (s.data.toList.drop 1) <;> rfl), by simp, Below.refl _ _⟩
   case round =>
    obtain ⟨k, ol, hk, rfl, ho, hrl, hol, hb⟩ := hrel;by_cases hlt : k < s.size
    ·have HC := hid (HAT.out k hlt);have hc2 := (s[k]'hlt).toNat_lt;have hbs := hb.size;have HO := hid ho;have HB := hid hb;clear ho hb;by_cases h34 : (s[k]'hlt).toNat = 34
     ·have hy : (((s[k]'hlt).toNat : Int) == 34) = true := by rw [h34]; rfl
      have HE := hid (Qe hrl.out HC.out h34);have hcv := fun q => Fb (w := wr.drewN q) HO.out
      have hex := BA s (k + 1);clear h34;go_wp2_with fail
      go_quiet (fail)
      go_wp2_with fail
      go_ret3
      exact ⟨CR (y := some (ol, s.data.toList.drop (k + 1))) rfl (by rw [HU.out, HE.out]), below_drewN HB.out _⟩
     ·have hy : (((s[k]'hlt).toNat : Int) == 34) = false := by rw [beq_eq_false_iff_ne]; omega
      by_cases h92 : (s[k]'hlt).toNat = 92
      ·have hx : (((s[k]'hlt).toNat : Int) == 92) = true := by rw [h92]; rfl
       have hdl : s.data.toList.drop k = s[k]'hlt :: s.data.toList.drop (k + 1) := by
        obtain ⟨h1, h2⟩ := List.getElem?_eq_some_iff.1 HC.out;rw [← h2];exact List.drop_eq_getElem_cons h1
       have htk := Pk (s.data.toList.drop (k + 1)) (s[k]'hlt) h92;rw [← hdl] at htk;have hES : ∀ W, Calls Tryz.prog 42 #[.string (s.extract k s.size)] W fun e w' => e = .returned (.tuple #[.int .u8 ((escF (s.data.toList.drop k)).1.toNat : Int), .int .i64 ((escF (s.data.toList.drop k)).2 : Nat)]) ∧ ∃ q, w' = W.drewN q := by
        intro W;have h1 := LX (s.extract k s.size) W (by rw [Pp]; omega);rwa [EB] at h1
       have HES := hid hES;have hbn := (escF (s.data.toList.drop k)).1.toNat_lt;clear hES hdl h92;by_cases hn : (escF (s.data.toList.drop k)).2 = 0
       ·rw [if_pos hn] at htk;have HE := hid (Gd hrl.out HC.out h34 htk);clear htk h34;have hq : (((escF (s.data.toList.drop k)).2 : Int) == 0) = true := by rw [hn]; rfl
        clear hn;generalize escF (s.data.toList.drop k) = ev at *;go_wp2_with fail;refine (HES.out _).mono ?_;rintro e w2 ⟨rfl, q, rfl⟩;go_wp2_with fail
        go_ret3
        exact ⟨CR rfl (by rw [HU.out, HE.out]), below_drewN HB.out _⟩
       ·rw [if_neg hn] at htk;have hT := Ar.Ht (b := (escF (s.data.toList.drop k)).1) (k := (escF (s.data.toList.drop k)).2) htk;have HT : Hid (UqRel s.data.toList (k + (escF (s.data.toList.drop k)).2) (ol ++ [(escF (s.data.toList.drop k)).1])) := hid (ER hrl.out HC.out h34 htk);have hT2 : (escF (s.data.toList.drop k)).2 ≤ s.size - k := by
         have := hT.2;rwa [List.length_drop, ← AI] at this
        have hT1 := hT.1;have hq : (((escF (s.data.toList.drop k)).2 : Int) == 0) = false := by rw [beq_eq_false_iff_ne]; omega
        clear htk h34 hT hn;generalize escF (s.data.toList.drop k) = ev at *;go_wp2_with fail;refine (HES.out _).mono ?_;rintro e w2 ⟨rfl, q, rfl⟩;go_wp2_with (at_builtin; refine CC rfl _ _ rfl (wr.drewN q) [ev.1] u5 ol w.heap.size rfl HO.out rfl hbs (by simp; omega) ?_; intro v2 w3 ho3 hg3 hb3)
        go_roundw
        case rel => exact ⟨k + ev.2, ol ++ [ev.1], by omega, by go_num, ho3, HT, by rw [List.length_append]; simp; omega, hb3 _ (below_drewN HB.out _)⟩
        case measure => simp [RowKit.intOf]; omega
      ·have hx : (((s[k]'hlt).toNat : Int) == 92) = false := by rw [beq_eq_false_iff_ne]; omega
       have hdl : s.data.toList.drop k = s[k]'hlt :: s.data.toList.drop (k + 1) := by
        obtain ⟨h1, h2⟩ := List.getElem?_eq_some_iff.1 HC.out;rw [← h2];exact List.drop_eq_getElem_cons h1
       have HBA := hid (fun w => Kx (s[k]'hlt) w);by_cases hpl : Ar.BI (s[k]'hlt) = true
       ·have HP := hid hpl;have HT : Hid (UqRel s.data.toList (k + 1) (ol ++ [s[k]'hlt])) := hid (ER hrl.out HC.out h34 (by rw [hdl, Ar.CG, if_pos hpl]));clear hdl hpl h34 h92
        go_wp2_with (first
         | (go_at_call 41; refine (HBA.out _).mono ?_; rintro e w' ⟨rfl, rfl⟩; rw [HP.out])
         | (at_builtin; refine CC rfl _ _ rfl wr [s[k]'hlt] u5 ol w.heap.size rfl HO.out rfl hbs (by simp; omega) ?_; intro v2 w3 ho3 hg3 hb3))
        go_roundw
        case rel => exact ⟨k + 1, ol ++ [s[k]'hlt], by omega, by go_num, ho3, HT, by rw [List.length_append]; simp; omega, hb3 _ HB.out⟩
        case measure => simp [RowKit.intOf]; omega
       ·have HP : Hid (Ar.BI (s[k]'hlt) = false) := hid (by simpa using hpl);have HE := hid (Gd hrl.out HC.out h34 (by rw [hdl, Ar.CG, if_neg hpl, if_pos h92]));clear hdl hpl h34 h92;go_wp2_with (go_at_call 41; refine (HBA.out _).mono ?_; rintro e w' ⟨rfl, rfl⟩; rw [HP.out])
        go_ret3
        exact ⟨CR rfl (by rw [HU.out, HE.out]), HB.out⟩
    ·obtain rfl : k = s.size := by omega
     have HE : Hid (Ar.unq (s.data.toList.drop 1) = none) := hid (J7 hrl.out (by rw [List.drop_of_length_le (by rw [← AI]; exact Nat.le_refl _)]; rfl));go_wp2_with fail
     go_ret3
     exact ⟨CR rfl (by rw [HU.out, HE.out]), hb⟩
  ·have hz : (((s[0]'hp).toNat : Int) != 34) = true := by rw [bne_iff_ne]; omega
   have HU : Hid (Ar.At s.data.toList = none) := hid (by
    have h1 := IF (s[0]'hp) (s.data.toList.drop 1) h34
    rwa [← HLH.out] at h1)
   clear h34;go_enter Tryz.func15, Tryz.ntmps15;go_wp2_with fail
   go_ret3
   exact ⟨CR rfl HU.out, Below.refl _ _⟩
theorem IT (c : UInt8) (w : World) : Calls Tryz.prog 43 #[.int .u8 (c.toNat : Int)] w fun e w' => e = .returned (.bool (Ar.BI c)) ∧ w = w' := by
 have hc := c.toNat_lt;by_cases h1 : c.toNat < 32
 ·have hp : Ar.BI c = false := decide_eq_false (by omega);have HP := hid hp;clear hp;go_enter Tryz.func43, Tryz.ntmps43;go_wp2_with fail;go_ret;exact ⟨AL HP.out.symm, rfl⟩
 ·by_cases h2 : 126 < c.toNat
  ·have hp : Ar.BI c = false := decide_eq_false (by omega);have HP := hid hp;clear hp;go_enter Tryz.func43, Tryz.ntmps43;go_wp2_with fail;go_ret;exact ⟨AL HP.out.symm, rfl⟩
  ·by_cases h3 : c.toNat = 34
   ·have hp : Ar.BI c = false := decide_eq_false (by omega);have HP := hid hp;have hz : ((c.toNat : Int) != 34) = false := by rw [h3]; rfl
    clear hp h3;go_enter Tryz.func43, Tryz.ntmps43;go_wp2_with fail;go_ret;exact ⟨AL HP.out.symm, rfl⟩
   ·have hz : ((c.toNat : Int) != 34) = true := by rw [bne_iff_ne]; omega
    by_cases h4 : c.toNat = 92
    ·have hp : Ar.BI c = false := decide_eq_false (by omega);have HP := hid hp;have hy : ((c.toNat : Int) != 92) = false := by rw [h4]; rfl
     clear hp h4 h3;go_enter Tryz.func43, Tryz.ntmps43;go_wp2_with fail;go_ret;exact ⟨AL HP.out.symm, rfl⟩
    ·have hy : ((c.toNat : Int) != 92) = true := by rw [bne_iff_ne]; omega
     have hp : Ar.BI c = true := decide_eq_true (by omega);have HP := hid hp;clear hp h4 h3;go_enter Tryz.func43, Tryz.ntmps43;go_wp2_with fail;go_ret;exact ⟨AL HP.out.symm, rfl⟩
theorem Kl (i : Int) (h0 : 0 ≤ i) (h1 : i < 16) (w : World) : Calls Tryz.prog 44 #[.int .u8 i] w fun e w' => e = .returned (.int .u8 ((Ar.hexd i.toNat).toNat : Int)) ∧ w = w' := by
 by_cases h : i < 10
 ·have HE : Hid (((Ar.hexd i.toNat).toNat : Int) = 48 + i) := hid (by unfold Ar.hexd; rw [if_pos (by omega), UInt8.toNat_ofNat']; omega);go_enter Tryz.func44, Tryz.ntmps44;go_wp2_with fail;go_ret;exact ⟨Cq HE.out.symm, rfl⟩
 ·have HE : Hid (((Ar.hexd i.toNat).toNat : Int) = 97 + i - 10) := hid (by unfold Ar.hexd; rw [if_neg (by omega), UInt8.toNat_ofNat']; omega);go_enter Tryz.func44, Tryz.ntmps44;go_wp2_with fail;go_ret;exact ⟨Cq HE.out.symm, rfl⟩
def digI (c : UInt8) : Int := match Ar.digv c with | some v => (v : Int) | none => -1
theorem IK (c : UInt8) : -1 ≤ digI c ∧ digI c < 16 := by
 unfold digI
 cases h : Ar.digv c with
 | none => simp
 | some v => have := (Ar.Fo h).1; simp only; omega
theorem I2 (c : UInt8) (w : World) : Calls Tryz.prog 45 #[.int .u8 (c.toNat : Int)] w fun e w' => e = .returned (.int .i64 (digI c)) ∧ w = w' := by
 have hc := c.toNat_lt;by_cases h1 : 48 ≤ c.toNat ∧ c.toNat ≤ 57
 ·have HE : Hid (digI c = (c.toNat : Int) - 48) := hid (by unfold digI Ar.digv; rw [if_pos h1]; simp only; omega);obtain ⟨h1, h2⟩ := h1;go_enter Tryz.func45, Tryz.ntmps45;go_wp2_with fail;go_ret;exact ⟨Cq HE.out.symm, rfl⟩
 ·by_cases h2 : 97 ≤ c.toNat ∧ c.toNat ≤ 102
  ·have HE : Hid (digI c = (c.toNat : Int) - 97 + 10) := hid (by unfold digI Ar.digv; rw [if_neg h1, if_pos h2]; simp only; omega);clear h1;obtain ⟨h1, h2⟩ := h2;go_enter Tryz.func45, Tryz.ntmps45;go_wp2_with fail;go_ret;exact ⟨Cq HE.out.symm, rfl⟩
  ·have HE : Hid (digI c = -1) := hid (by unfold digI Ar.digv; rw [if_neg h1, if_neg h2]);have hcase : c.toNat < 48 ∨ (57 < c.toNat ∧ c.toNat < 97) ∨ 102 < c.toNat := by omega
   clear h1 h2;rcases hcase with h1 | ⟨h1, h2⟩ | h1
   all_goals
    go_enter Tryz.func45, Tryz.ntmps45;go_wp2_with fail;go_ret;exact ⟨Cq HE.out.symm, rfl⟩
theorem DT (s : ByteArray) (w : World) (hs : s.size ≤ 1000000) :
  Calls Tryz.prog 16 #[.string s] w fun e w' => e = .returned (.string (bstr (Ar.quote s.data.toList))) ∧ Below w.heap.size w w' := by
 have hb1 : Below w.heap.size w (w.alloc (.cells #[.int .u8 34] 5)) := (Below.refl _ _).alloc (Nat.le_refl _) _;have ho1 : OwnB w.heap.size (w.alloc (.cells #[.int .u8 34] 5)) (.slice (some ⟨w.heap.size, 0, none⟩) 1 1) [34] := IX w 34;have HL := hid (AI s);have HAT : Hid (∀ k (h : k < s.size), s.data.toList[k]? = some s[k]) := hid (CS s);have HB1 := hid hb1;have HO1 := hid ho1;clear hb1 ho1;go_enter Tryz.func16, Tryz.ntmps16;go_wp2_with fail
 go_loopw [3, 4] (fun out ix wr => ∃ k : Nat, k ≤ s.size ∧ ix = .int .i64 k ∧ OwnB w.heap.size wr out (qk s.data.toList k) ∧ Below w.heap.size w wr) (fun _ ix _ => s.size - (RowKit.intOf ix).toNat)
 case atStart => exact ⟨0, Nat.zero_le _, rfl, by simpa [qk] using HO1.out, HB1.out⟩
 case round =>
  obtain ⟨k, hk, rfl, ho, hb⟩ := hrel;by_cases hlt : k < s.size
  ·have hc := HAT.out k hlt;have HST := hid (MH hc);have hql := IY s.data.toList k;have hc2 := (s[k]'hlt).toNat_lt;have hbs := hb.size;have HO := hid ho;have HB := hid hb;have HBA := hid (fun w => IT (s[k]'hlt) w);clear hc ho hb;by_cases h4 : Ar.BI (s[k]'hlt) = true
   ·have hp4 := Ar.plainB_iff.1 h4;have HE : Hid (Ar.esc (s[k]'hlt) = [s[k]'hlt]) := hid (by unfold Ar.esc; rw [if_neg (by omega), if_neg (by omega), if_pos h4]);have HP := hid h4;clear hp4 h4
    go_wp2_with (first
     | (go_at_call 43; refine (HBA.out _).mono ?_; rintro e w' ⟨rfl, rfl⟩; rw [HP.out])
     | (at_builtin; refine CC rfl _ _ rfl wr [s[k]'hlt] u3 (qk s.data.toList k) w.heap.size rfl HO.out rfl hbs (by simp; omega) ?_; intro v2 w2 ho2 hg2 hb2))
    go_roundw
    case rel => exact ⟨k + 1, by omega, by go_num, by rw [HST.out, HE.out]; exact ho2, hb2 _ HB.out⟩
    case measure => simp [RowKit.intOf]; omega
   ·have HP : Hid (Ar.BI (s[k]'hlt) = false) := hid (by simpa using h4);by_cases h1 : (s[k]'hlt).toNat = 34
    ·have hz : (((s[k]'hlt).toNat : Int) == 34) = true := by rw [h1]; rfl
     have HE : Hid (Ar.esc (s[k]'hlt) = [92, s[k]'hlt]) := hid (by unfold Ar.esc; rw [if_pos (.inl h1)]);clear h1 h4
     go_wp2_with (first
      | (go_at_call 43; refine (HBA.out _).mono ?_; rintro e w' ⟨rfl, rfl⟩; rw [HP.out])
      | (at_builtin; refine CC rfl _ _ rfl wr [92, s[k]'hlt] u3 (qk s.data.toList k) w.heap.size rfl HO.out rfl hbs (by simp; omega) ?_; intro v2 w2 ho2 hg2 hb2))
     go_roundw
     case rel => exact ⟨k + 1, by omega, by go_num, by rw [HST.out, HE.out]; exact ho2, hb2 _ HB.out⟩
     case measure => simp [RowKit.intOf]; omega
    ·have hz : (((s[k]'hlt).toNat : Int) == 34) = false := by rw [beq_eq_false_iff_ne]; omega
     by_cases h2 : (s[k]'hlt).toNat = 92
     ·have hy : (((s[k]'hlt).toNat : Int) == 92) = true := by rw [h2]; rfl
      have HE : Hid (Ar.esc (s[k]'hlt) = [92, s[k]'hlt]) := hid (by unfold Ar.esc; rw [if_pos (.inr h2)]);clear h1 h2 h4
      go_wp2_with (first
       | (go_at_call 43; refine (HBA.out _).mono ?_; rintro e w' ⟨rfl, rfl⟩; rw [HP.out])
       | (at_builtin; refine CC rfl _ _ rfl wr [92, s[k]'hlt] u3 (qk s.data.toList k) w.heap.size rfl HO.out rfl hbs (by simp; omega) ?_; intro v2 w2 ho2 hg2 hb2))
      go_roundw
      case rel => exact ⟨k + 1, by omega, by go_num, by rw [HST.out, HE.out]; exact ho2, hb2 _ HB.out⟩
      case measure => simp [RowKit.intOf]; omega
     ·have hy : (((s[k]'hlt).toNat : Int) == 92) = false := by rw [beq_eq_false_iff_ne]; omega
      by_cases h3 : (s[k]'hlt).toNat = 10
      ·have hx : (((s[k]'hlt).toNat : Int) == 10) = true := by rw [h3]; rfl
       have HE : Hid (Ar.esc (s[k]'hlt) = [92, 110]) := hid (by unfold Ar.esc; rw [if_neg (by omega), if_pos h3]);clear h1 h2 h3 h4
       go_wp2_with (first
        | (go_at_call 43; refine (HBA.out _).mono ?_; rintro e w' ⟨rfl, rfl⟩; rw [HP.out])
        | (at_builtin; refine CC rfl _ _ rfl wr [92, 110] u3 (qk s.data.toList k) w.heap.size rfl HO.out rfl hbs (by simp; omega) ?_; intro v2 w2 ho2 hg2 hb2))
       go_roundw
       case rel => exact ⟨k + 1, by omega, by go_num, by rw [HST.out, HE.out]; exact ho2, hb2 _ HB.out⟩
       case measure => simp [RowKit.intOf]; omega
      ·have hx : (((s[k]'hlt).toNat : Int) == 10) = false := by rw [beq_eq_false_iff_ne]; omega
       have HE : Hid (Ar.esc (s[k]'hlt) = [92, 120, Ar.hexd ((s[k]'hlt).toNat / 16), Ar.hexd ((s[k]'hlt).toNat % 16)]) := hid (by unfold Ar.esc; rw [if_neg (by omega), if_neg h3, if_neg h4]);have hI1 : 0 ≤ ((s[k]'hlt).toNat : Int) / 16 := by omega
       have hI2 : ((s[k]'hlt).toNat : Int) / 16 < 16 := by omega
       have hI3 : 0 ≤ ((s[k]'hlt).toNat : Int) % 16 := by omega
       have hI4 : ((s[k]'hlt).toNat : Int) % 16 < 16 := by omega
       have hx1 := fun w => Kl (((s[k]'hlt).toNat : Int) / 16) hI1 hI2 w
       have hx2 := fun w => Kl (((s[k]'hlt).toNat : Int) % 16) hI3 hI4 w
       rw [show (((s[k]'hlt).toNat : Int) / 16).toNat = (s[k]'hlt).toNat / 16 from by omega] at hx1;rw [show (((s[k]'hlt).toNat : Int) % 16).toNat = (s[k]'hlt).toNat % 16 from by omega] at hx2;have HX1 := hid hx1;have HX2 := hid hx2;clear h1 h2 h3 h4 hx1 hx2
       go_wp2_with (first
        | (go_at_call 43; refine (HBA.out _).mono ?_; rintro e w' ⟨rfl, rfl⟩; rw [HP.out])
        | (go_at_call 44; ((with_reducible refine (HX1.out _).mono ?_); rintro e w' ⟨rfl, rfl⟩))
        | (go_at_call 44; ((with_reducible refine (HX2.out _).mono ?_); rintro e w' ⟨rfl, rfl⟩))
        | (at_builtin; refine CC rfl _ _ rfl wr [92, 120, Ar.hexd ((s[k]'hlt).toNat / 16), Ar.hexd ((s[k]'hlt).toNat % 16)] u3 (qk s.data.toList k) w.heap.size rfl HO.out rfl hbs (by simp; omega) ?_; intro v2 w2 ho2 hg2 hb2))
       go_roundw
       case rel => exact ⟨k + 1, by omega, by go_num, by rw [HST.out, HE.out]; exact ho2, hb2 _ HB.out⟩
       case measure => simp [RowKit.intOf]; omega
  ·obtain rfl : k = s.size := by omega
   have HALL : Hid (qk s.data.toList s.size ++ [34] = Ar.quote s.data.toList) := hid (by rw [HL.out]; exact PD _);have hql := IY s.data.toList s.size;have hbs := hb.size;have HO := hid ho;have HB := hid hb;clear ho hb
   go_wp2_with (first
    | (at_builtin; refine CC rfl _ _ rfl wr [34] u3 (qk s.data.toList s.size) w.heap.size rfl HO.out rfl hbs (by simp; omega) ?_; intro v2 w2 ho2 hg2 hb2; have hcv := Fb ho2))
   go_ret;exact ⟨AM (by rw [HALL.out]), hb2 _ HB.out⟩
end Go.Proofs.YteadlcncnhbmjaaGreatDoor
