/- The text Anj. -/
import Derived.Test.YteadlcncnhbmjaaGreatDoorMsan
import Derived.Lib.SplitLaws
import Derived.Lib.IndexBytes
set_option linter.unusedSimpArgs false
set_option maxHeartbeats 16000000
set_option maxRecDepth 100000
set_option linter.unusedVariables false
namespace Ar
open Go.Lib
theorem H9 : ∀ (l t : Str) (c : UInt8), c ∉ l → indexByte (l ++ c :: t) c = (l.length : Int)
 | [], t, c, _ => by
  show indexByte (c :: t) c = 0;rw [indexByte, if_pos (beq_self_eq_true c)]
 | b :: l, t, c, h => by
  simp only [List.mem_cons, not_or] at h;have ih := H9 l t c h.2;show indexByte (b :: (l ++ c :: t)) c = _;have h1 : ¬ (b == c) = true := fun e => h.1 (beq_iff_eq.1 e).symm
  have h2 : ¬ ((l.length : Int) == -1) = true := fun e => by have := beq_iff_eq.1 e; omega
  rw [indexByte, if_neg h1, ih, if_neg h2, List.length_cons];omega
theorem G4 : ∀ (k : Nat) (s : Str), s.count 10 = k → splitK [10] 0 k s = lines s
 | 0, s, h => by
  have hn : (10 : UInt8) ∉ s := fun hm => by have := List.count_pos_iff.2 hm; omega
  rw [Ec s hn];rfl
 | k + 1, s, h => by
  have hm : (10 : UInt8) ∈ s := List.count_pos_iff.1 (by omega);obtain ⟨l, t, rfl, hl⟩ := List.eq_append_cons_of_mem hm;have hc : t.count 10 = k := by
   rw [List.count_append, List.count_eq_zero.2 hl, List.count_cons_self] at h;omega
  have hi : index (l ++ 10 :: t) [10] = (l.length : Int) := by rw [index_one, H9 l t 10 hl]
  have h2 : ¬ ((l.length : Int) == -1) = true := fun e => by have := beq_iff_eq.1 e; omega
  rw [EL l t hl, splitK, hi, if_neg h2, ← G4 k t hc]
  congr 1
  ·rw [Int.toNat_natCast, Nat.add_zero, List.take_left]
  ·congr 1
   rw [Int.toNat_natCast, show l ++ 10 :: t = (l ++ [10]) ++ t from by simp, List.drop_left' (by simp)]
end Ar
namespace Go.Proofs.YteadlcncnhbmjaaGreatDoor
open Go.RowKit Go.Lib
theorem GC (s : ByteArray) : splitB ⟨#[10]⟩ 0 (countB s ⟨#[10]⟩) s = (Ar.lines s.data.toList).map bstr := by
 have h := splitB_data ⟨#[10]⟩ 0 (countB s ⟨#[10]⟩) s;rw [show (⟨#[10]⟩ : ByteArray).data.toList = [10] from rfl, Ar.G4 _ _ (count_one 10 s.data.toList).symm] at h;have h2 := congrArg (List.map bstr) h;rw [List.map_map] at h2;rw [← h2]
 conv => lhs; rw [← List.map_id (splitB _ _ _ _)]
 rfl
theorem Kn (s : ByteArray) : countB s ⟨#[10]⟩ + 1 = (Ar.lines s.data.toList).length := by
 have h := congrArg List.length (GC s);rw [List.length_map, splitB_all _ (by decide) 0 _ s rfl] at h;exact h
theorem De (s : ByteArray) (w : World) (hs : s.size ≤ 1000000) (hR : Ready w) :
  Calls Tryz.prog 23 #[.string s] w fun e w' =>
   e = .returned (.slice (some ⟨w.heap.size, 0, none⟩) (Ar.lines s.data.toList).length (Ar.lines s.data.toList).length) ∧ w' = w.alloc (.cells (strL (Ar.lines s.data.toList)).toArray 9) := by
 obtain ⟨m, hm⟩ := hR.1;have HM := hid hm;clear hm;have HL := hid (Kn s);have HS := hid (GC s);go_enter Tryz.func23, Tryz.ntmps23;go_wp2_with fail;refine (Tryz.strings_Split s ⟨#[10]⟩ m w (by omega) HM.out (by decide)).mono ?_;rintro e w2 ⟨rfl, rfl⟩;rw [HS.out, HL.out, List.map_map];go_wp2_with fail;go_ret;exact ⟨rfl, rfl⟩
end Go.Proofs.YteadlcncnhbmjaaGreatDoor
