/- The walk of turned: the other case of all letters. -/
import Derived.Lib.ConvBytes
import Derived.Lib.AtoiErrMem
import Derived.Laws.IdiomStrings
import Derived.Test.YtfdcbmmafhjlfaaGreatSz1
namespace Go.Proofs.YtfdcbmmafhjlfaaGreat
open Go.RowKit Go.Lib
set_option linter.unusedVariables false

/-- bytes that may be read and written -/
def Bts (w : World) (g n : Nat) (bs : List UInt8) : Prop := bs.length = n ∧ (∀ j c, bs[j]? = some c → w.cell? ⟨g, j, none⟩ = some (.int .u8 (c.toNat : Int))) ∧ ∀ j, j < n → w.frozen? ⟨g, j, none⟩ = false
theorem Bts.set {w : World} {g n i : Nat} {bs : List UInt8} (h : Bts w g n bs) (hi : i < n) (c : UInt8) : Bts (w.setCell ⟨g, i, none⟩ (.int .u8 (c.toNat : Int))) g n (bs.set i c) := by
  obtain ⟨h1, h2, h3⟩ := h
  refine ⟨by rw [List.length_set]; exact h1, ?_, ?_⟩
  · intro j d hd
    by_cases e : i = j
    · subst e
      rw [List.getElem?_set_self (by omega)] at hd
      injection hd with hd
      subst hd
      exact World.cell?_setCell_same' _ _ _ (by rw [h2 i bs[i] (List.getElem?_eq_getElem (by omega))]; rfl)
    · rw [List.getElem?_set_ne e] at hd
      exact (World.cell?_setCell_other (w := w) (a := ⟨g, i, none⟩) (b := ⟨g, j, none⟩) _ (fun e2 => e (congrArg Addr.off e2))).trans (h2 j d hd)
  · intro j hj
    rw [World.frozen?_setCell]
    exact h3 j hj
theorem Bts.rd {w : World} {g n : Nat} {bs : List UInt8} (h : Bts w g n bs) : Rd w (some ⟨g, 0, none⟩) n (bytesL bs) := by
  refine ⟨by unfold bytesL; rw [List.length_map]; exact h.1, fun j v hv => ?_⟩
  unfold bytesL at hv
  rw [List.getElem?_map] at hv
  cases hq : bs[j]? with
  | none => rw [hq] at hv; cases hv
  | some c =>
    rw [hq] at hv
    injection hv with hv
    subst hv
    exact ⟨g, 0, rfl, by rw [Nat.zero_add]; exact h.2.1 j c hq⟩
/-- the first bytes turned -/
def half (l : List UInt8) (k : Nat) : List UInt8 := (l.take k).map Sr.flip ++ l.drop k
theorem half_step {l : List UInt8} {k : Nat} {c : UInt8} (h : l[k]? = some c) : half l (k + 1) = (half l k).set k (Sr.flip c) := by
  obtain ⟨h1, h2⟩ := List.getElem?_eq_some_iff.1 h
  unfold half
  rw [take_snoc h, List.map_append, List.append_assoc, List.set_append_right _ _ (by simp; omega), List.drop_eq_getElem_cons h1, h2]
  simp
  rw [show k - min k l.length = 0 from by omega]
  rfl
theorem half_at {l : List UInt8} {k : Nat} {c : UInt8} (h : l[k]? = some c) : (half l k)[k]? = some c := by
  obtain ⟨h1, h2⟩ := List.getElem?_eq_some_iff.1 h
  unfold half
  rw [List.getElem?_append_right (by simp; omega), List.length_map, List.length_take, List.getElem?_drop]
  rw [show k + (k - min k l.length) = k from by omega]
  exact h
theorem half_len (l : List UInt8) (k : Nat) : (half l k).length = l.length := by
  unfold half
  rw [List.length_append, List.length_map, List.length_take, List.length_drop]
  omega
theorem half_zero (l : List UInt8) : half l 0 = l := by simp [half]
theorem half_all (l : List UInt8) : half l l.length = l.map Sr.flip := by simp [half]
theorem half_keep {l : List UInt8} {k : Nat} {c : UInt8} (h : l[k]? = some c) (hf : Sr.flip c = c) : half l (k + 1) = half l k := by
  rw [half_step h, hf]
  refine List.ext_getElem? fun i => ?_
  by_cases e : k = i
  · subst e
    rw [List.getElem?_set_self (by rw [half_len]; exact (List.getElem?_eq_some_iff.1 h).1), half_at h]
  · rw [List.getElem?_set_ne e]

set_option maxRecDepth 100000 in
theorem turned_any (s : ByteArray) (w : World) (hs : s.size ≤ 2000) :
    Calls Tryz.prog 17 #[.string s] w fun e w' => e = .returned (.string (bstr (s.data.toList.map Sr.flip))) ∧ Below w.heap.size w w' := by
  have hcv := Lib.run_convert_string_bytes (P := Tryz.prog) w 9 62 5 s (u := .string) Tryz.underlying9 Tryz.underlying62 Tryz.underlying5
  have hB0 : Below w.heap.size w (Lib.bytesWorld w 5 s) := Lib.bytesWorld_below w 5 s
  have hbt : Bts (Lib.bytesWorld w 5 s) w.heap.size s.size s.data.toList := by
    refine ⟨(str_size s).symm, ?_, ?_⟩
    · intro j c hc
      have hj : j < s.size := by rw [str_size]; exact (List.getElem?_eq_some_iff.1 hc).1
      rw [Lib.bytesWorld_cell w 5 s j hj]
      simp [List.getD, hc]
    · intro j hj
      have h1 := Lib.bytesWorld_at_new w 5 s
      have h2 : s.size ≤ (Lib.bytesCells w 5 s).size := by
        unfold Lib.bytesCells
        rw [Array.size_append, Array.size_map]
        exact Nat.le_add_right _ _
      simp [World.frozen?, h1]
      omega
  have HSZ := Lib.hid (str_size s)
  generalize Lib.bytesWorld w 5 s = w0 at *
  generalize hcap : grownCap w s.size 0 5 = cap at *
  generalize hl : s.data.toList = l at *
  generalize hn : s.size = n at *
  clear hl hn hcap
  have HL : Hid (l.length = n) := Lib.hid HSZ.out.symm
  have HBT := Lib.hid hbt
  clear hbt HSZ
  go_enter Tryz.func17, Tryz.ntmps17
  go_wp2_with fail
  go_loopw [4] (fun i wr => ∃ k : Nat, k ≤ n ∧ i = .int .i64 (k : Int) ∧ Bts wr w.heap.size n (half l k) ∧ Below w.heap.size w wr) (fun i _ => n - (intOf i).toNat)
  case atStart => exact ⟨0, Nat.zero_le _, rfl, by rw [half_zero]; exact HBT.out, hB0⟩
  case round =>
    obtain ⟨k, hk, rfl, hbt, hb⟩ := hrel
    by_cases hlt : k < n
    · obtain ⟨c, hc⟩ : ∃ c, l[k]? = some c := ⟨_, List.getElem?_eq_getElem (by rw [HL.out]; exact hlt)⟩
      have hcell := hbt.2.1 k c (half_at hc)
      have hfrz := hbt.2.2 k hlt
      have HC := Lib.hid hc
      have HB := Lib.hid hbt
      have hc2 : c.toNat < 256 := c.toNat_lt
      clear hc hbt
      by_cases h1 : 97 ≤ c.toNat ∧ c.toNat ≤ 122
      · have hf : ((Sr.flip c).toNat : Int) = (c.toNat : Int) - 32 := by
          unfold Sr.flip
          rw [if_pos h1, UInt8.toNat_ofNat']
          omega
        have HST := Lib.hid (half_step HC.out)
        have HSE := Lib.hid (HB.out.set hlt (Sr.flip c))
        have HF := Lib.hid hf
        clear hf
        go_wp2_with fail
        go_roundw
        case rel => exact ⟨k + 1, by omega, by go_num, by rw [HST.out, ← HF.out]; exact HSE.out, hb.setCell (p := ⟨w.heap.size, k, none⟩) (Nat.le_refl _) _⟩
        case measure => simp [intOf]; omega
      · by_cases h2 : 65 ≤ c.toNat ∧ c.toNat ≤ 90
        · have hf : ((Sr.flip c).toNat : Int) = (c.toNat : Int) + 32 := by
            unfold Sr.flip
            rw [if_neg h1, if_pos h2, UInt8.toNat_ofNat']
            omega
          have HST := Lib.hid (half_step HC.out)
          have HSE := Lib.hid (HB.out.set hlt (Sr.flip c))
          have HF := Lib.hid hf
          clear hf
          by_cases h3 : 97 ≤ c.toNat
          · omega
          · go_wp2_with fail
            go_roundw
            case rel => exact ⟨k + 1, by omega, by go_num, by rw [HST.out, ← HF.out]; exact HSE.out, hb.setCell (p := ⟨w.heap.size, k, none⟩) (Nat.le_refl _) _⟩
            case measure => simp [intOf]; omega
        · have HK := Lib.hid (half_keep HC.out (by unfold Sr.flip; rw [if_neg h1, if_neg h2]))
          have hcase : (c.toNat < 65) ∨ (90 < c.toNat ∧ c.toNat < 97) ∨ 122 < c.toNat := by omega
          clear h1 h2
          rcases hcase with h1 | ⟨h1, h2⟩ | h1
          all_goals
            go_wp2_with fail
            go_roundw
            case rel => exact ⟨k + 1, by omega, by go_num, by rw [HK.out]; exact HB.out, hb⟩
            case measure => simp [intOf]; omega
    · obtain rfl : k = n := by omega
      have HA : Hid (half l k = l.map Sr.flip) := Lib.hid (by rw [← HL.out]; exact half_all l)
      rw [HA.out] at hbt
      have hcv2 := run_conv_bs wr 62 9 5 Tryz.underlying62 Tryz.underlying5 Tryz.underlying9 (some ⟨w.heap.size, 0, none⟩) k cap (l.map Sr.flip) hbt.rd
      clear hbt
      go_wp2_with fail
      go_ret
      exact ⟨rfl, hb⟩
end Go.Proofs.YtfdcbmmafhjlfaaGreat
