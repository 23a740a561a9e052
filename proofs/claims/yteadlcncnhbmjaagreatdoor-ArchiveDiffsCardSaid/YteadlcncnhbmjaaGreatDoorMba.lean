/- The law's short and changes, and what the scripts of short texts measure. -/
import Derived.Test.YteadlcncnhbmjaaGreatDoorMas
import Derived.Test.YteadlcncnhbmjaaGreatDoorMat
set_option linter.unusedSimpArgs false
namespace Ar
theorem dl_self : ∀ (x : List Str) (n : Nat), dl x x n = flush (n + x.length)
  | [], n => by rw [dl_end]; rfl
  | a :: x, n => by rw [dl_eq, dl_self x (n + 1)]; congr 1; simp; omega
theorem diff_self (x : List Str) (h : x ≠ []) : diff x x = [.keep x.length] := by
  unfold diff
  rw [dl_self, Nat.zero_add]
  unfold flush
  rw [if_neg (fun e => h (List.eq_nil_of_length_eq_zero e))]
theorem flush_len (n : Nat) : (flush n).length ≤ 1 := by unfold flush; split <;> simp
/-- how many elements, and how long -/
theorem dl_size (M : Nat) : ∀ (k : Nat) (x y : List Str) (n : Nat), x.length + y.length ≤ k → 20 ≤ M → n + x.length ≤ 1000000 → (∀ l ∈ x, l.length ≤ M) → (∀ l ∈ y, l.length ≤ M) →
    (dl x y n).length ≤ 2 * (x.length + y.length) + 1 ∧ ∀ e ∈ dl x y n, e.enc.length ≤ M + 2 := by
  have hf : ∀ n : Nat, 20 ≤ M → n ≤ 1000000 → ∀ e ∈ flush n, e.enc.length ≤ M + 2 := by
    intro n hM hn e he
    unfold flush at he
    split at he
    · cases he
    · rw [List.mem_singleton.1 he]
      have := Go.Proofs.YteadlcncnhbmjaaGreatDoor.itoa_len (n : Int) (by unfold inInt; omega)
      show (61 :: 32 :: itoa n).length ≤ _
      simp only [List.length_cons]
      omega
  have hd : ∀ (n : Nat) (e0 : Ed) (r : List Ed) (m : Nat), 20 ≤ M → n ≤ 1000000 → e0.enc.length ≤ M + 2 → r.length + 2 ≤ m → (∀ e ∈ r, e.enc.length ≤ M + 2) → (flush n ++ e0 :: r).length ≤ m ∧ ∀ e ∈ flush n ++ e0 :: r, e.enc.length ≤ M + 2 := by
    intro n e0 r m hM hn h0 hm hr
    refine ⟨by have := flush_len n; rw [List.length_append, List.length_cons]; omega, fun e he => ?_⟩
    rcases List.mem_append.1 he with he | he
    · exact hf n hM hn e he
    · rcases List.mem_cons.1 he with rfl | he
      · exact h0
      · exact hr e he
  have hdel : ∀ a : Str, a.length ≤ M → (Ed.del a).enc.length ≤ M + 2 := fun a h => by show (45 :: 32 :: a).length ≤ _; simp only [List.length_cons]; omega
  have hadd : ∀ a : Str, a.length ≤ M → (Ed.add a).enc.length ≤ M + 2 := fun a h => by show (43 :: 32 :: a).length ≤ _; simp only [List.length_cons]; omega
  intro k
  induction k with
  | zero =>
    intro x y n hk hM hn hx hy
    obtain rfl : x = [] := List.eq_nil_of_length_eq_zero (by omega)
    obtain rfl : y = [] := List.eq_nil_of_length_eq_zero (by omega)
    rw [dl_end]
    exact ⟨by have := flush_len n; simp only [List.length_nil]; omega, hf n hM (by simp only [List.length_nil] at hn; omega)⟩
  | succ k ih =>
    intro x y n hk hM hn hx hy
    cases x with
    | nil =>
      cases y with
      | nil =>
        rw [dl_end]
        exact ⟨by have := flush_len n; simp only [List.length_nil]; omega, hf n hM (by simp only [List.length_nil] at hn; omega)⟩
      | cons b y =>
        simp only [List.length_cons, List.length_nil] at hk hn
        have h := ih [] y 0 (by simp only [List.length_nil]; omega) hM (by simp) (by simp) (fun l hl => hy l (by simp [hl]))
        rw [dl_add0]
        exact hd n _ _ _ hM (by omega) (hadd b (hy b (by simp))) (by have := h.1; simp only [List.length_cons, List.length_nil] at this ⊢; omega) h.2
    | cons a x =>
      cases y with
      | nil =>
        simp only [List.length_cons, List.length_nil] at hk hn
        have h := ih x [] 0 (by simp only [List.length_nil]; omega) hM (by omega) (fun l hl => hx l (by simp [hl])) (by simp)
        rw [dl_del0]
        exact hd n _ _ _ hM (by omega) (hdel a (hx a (by simp))) (by have := h.1; simp only [List.length_cons, List.length_nil] at this ⊢; omega) h.2
      | cons b y =>
        simp only [List.length_cons] at hk hn
        by_cases e : a = b
        · subst e
          have h := ih x y (n + 1) (by omega) hM (by omega) (fun l hl => hx l (by simp [hl])) (fun l hl => hy l (by simp [hl]))
          rw [dl_eq]
          exact ⟨by have := h.1; simp only [List.length_cons]; omega, h.2⟩
        · by_cases h2 : dis x (b :: y) + 1 = dis (a :: x) (b :: y)
          · have h := ih x (b :: y) 0 (by simp only [List.length_cons]; omega) hM (by omega) (fun l hl => hx l (by simp [hl])) hy
            rw [dl_del x y n e h2]
            exact hd n _ _ _ hM (by omega) (hdel a (hx a (by simp))) (by have := h.1; simp only [List.length_cons] at this ⊢; omega) h.2
          · have h := ih (a :: x) y 0 (by simp only [List.length_cons]; omega) hM (by simp only [List.length_cons]; omega) hx (fun l hl => hy l (by simp [hl]))
            rw [dl_add x y n e h2]
            exact hd n _ _ _ hM (by omega) (hadd b (hy b (by simp))) (by have := h.1; simp only [List.length_cons] at this ⊢; omega) h.2
theorem chgsS_snoc {d : List Str} {k : Nat} {s : Str} (h : d[k]? = some s) : chgsS (d.take (k + 1)) = chgsS (d.take k) + chgS s := by
  rw [Go.Proofs.YteadlcncnhbmjaaGreatDoor.take_snoc h]
  unfold chgsS
  simp
theorem chgsS_le (d : List Str) : chgsS d ≤ d.length := by
  unfold chgsS
  induction d with
  | nil => simp
  | cons s d ih =>
    simp only [List.map_cons, List.sum_cons, List.length_cons]
    have : chgS s ≤ 1 := by unfold chgS; split; omega; split <;> omega
    omega
end Ar
namespace Go.Proofs.YteadlcncnhbmjaaGreatDoor
open Go.RowKit Go.Lib
set_option linter.unusedVariables false

/-- the answer of short: true only for short texts -/
def ShortA (a b : ByteArray) (e : Ending) : Prop := ∃ s, e = .returned (.bool s) ∧ (s = true → a.size ≤ 600 ∧ b.size ≤ 600 ∧ (Ar.lines a.data.toList).length ≤ 40 ∧ (Ar.lines b.data.toList).length ≤ 40)
set_option maxHeartbeats 2000000 in
set_option maxRecDepth 100000 in
theorem short_any (a b : ByteArray) (w : World) : Calls Tryz.prog 31 #[.string a, .string b] w fun e w' => ShortA a b e ∧ Below w.heap.size w w' := by
  by_cases ha : a.size ≤ 600
  · by_cases hb : b.size ≤ 600
    · have HLA := Lib.hid (rlines_any a w (by omega))
      have HLB := Lib.hid (fun W => rlines_any b W (by omega))
      have h1 : decide ((a.size : Int) ≤ 600) = true := decide_eq_true (by omega)
      have h2 : decide ((b.size : Int) ≤ 600) = true := decide_eq_true (by omega)
      have HA : Hid (∀ s, (s = true → (Ar.lines a.data.toList).length ≤ 40 ∧ (Ar.lines b.data.toList).length ≤ 40) → ShortA a b (.returned (.bool s))) := Lib.hid (fun s h => ⟨s, rfl, fun hs => ⟨ha, hb, h hs⟩⟩)
      generalize Ar.lines a.data.toList = X at *
      generalize Ar.lines b.data.toList = Y at *
      generalize ShortA a b = SA at *
      go_enter Tryz.func31, Tryz.ntmps31
      go_wp2_with fail
      refine HLA.out.mono ?_
      rintro e w2 ⟨⟨v, rfl, ho⟩, hb2⟩
      obtain ⟨AX, cX, rfl⟩ := own_any ho
      have HB2 := Lib.hid hb2
      clear ho hb2
      by_cases hX : X.length ≤ 40
      · have h3 : decide ((X.length : Int) ≤ 40) = true := decide_eq_true (by omega)
        go_wp2_with fail
        refine (HLB.out _).mono ?_
        rintro e w3 ⟨⟨v, rfl, ho⟩, hb3⟩
        obtain ⟨AY, cY, rfl⟩ := own_any ho
        have HB3 := Lib.hid (HB2.out.trans (hb3.mono HB2.out.size))
        clear ho hb3
        by_cases hY : Y.length ≤ 40
        · have h4 : decide ((Y.length : Int) ≤ 40) = true := decide_eq_true (by omega)
          have HR := Lib.hid (HA.out true (fun _ => ⟨hX, hY⟩))
          go_wp2_with fail
          go_ret
          exact ⟨HR.out, HB3.out⟩
        · have h4 : decide ((Y.length : Int) ≤ 40) = false := decide_eq_false (by omega)
          have HR := Lib.hid (HA.out false (fun h => by cases h))
          go_wp2_with fail
          go_ret
          exact ⟨HR.out, HB3.out⟩
      · have h3 : decide ((X.length : Int) ≤ 40) = false := decide_eq_false (by omega)
        have HR := Lib.hid (HA.out false (fun h => by cases h))
        go_wp2_with fail
        go_ret
        exact ⟨HR.out, HB2.out⟩
    · have h1 : decide ((a.size : Int) ≤ 600) = true := decide_eq_true (by omega)
      have h2 : decide ((b.size : Int) ≤ 600) = false := decide_eq_false (by omega)
      have HR : Hid (ShortA a b (.returned (.bool false))) := Lib.hid ⟨false, rfl, fun h => by cases h⟩
      generalize ShortA a b = SA at *
      go_enter Tryz.func31, Tryz.ntmps31
      go_wp2_with fail
      go_ret
      exact ⟨HR.out, Below.refl _ _⟩
  · have h1 : decide ((a.size : Int) ≤ 600) = false := decide_eq_false (by omega)
    have HR : Hid (ShortA a b (.returned (.bool false))) := Lib.hid ⟨false, rfl, fun h => by cases h⟩
    generalize ShortA a b = SA at *
    go_enter Tryz.func31, Tryz.ntmps31
    go_wp2_with fail
    go_ret
    exact ⟨HR.out, Below.refl _ _⟩
set_option maxHeartbeats 2000000 in
set_option maxRecDepth 100000 in
theorem changes_any (A : Option Addr) (ca : Nat) (d : List (List UInt8)) (w : World) (hr : Rd w A d.length (strL d)) (hn : d.length ≤ 1000000) :
    Calls Tryz.prog 37 #[.slice A d.length ca] w fun e w' => e = .returned (.int .i64 (Ar.chgsS d : Nat)) ∧ ∃ q, w' = w.drewN q := by
  have HR := Lib.hid hr
  clear hr
  go_enter Tryz.func37, Tryz.ntmps37
  go_wp2_with fail
  go_loopw [3, 4] (fun nx ix wr => ∃ k q : Nat, k ≤ d.length ∧ ix = .int .i64 k ∧ nx = .int .i64 (Ar.chgsS (d.take k) : Nat) ∧ wr = w.drewN q) (fun _ ix _ => d.length - (RowKit.intOf ix).toNat)
  case atStart => exact ⟨0, 0, Nat.zero_le _, rfl, rfl, rfl⟩
  case round =>
    obtain ⟨k, q, hk, rfl, rfl, rfl⟩ := hrel
    by_cases hlt : k < d.length
    · obtain ⟨ba, oa, x, rfl, hx, hcx⟩ := (HR.out.drewN q).str_at hlt
      have HS := Lib.hid (Ar.chgsS_snoc hx)
      have hm : Ar.chgsS (d.take k) ≤ 1000000 := by have := Ar.chgsS_le (d.take k); rw [List.length_take] at this; omega
      obtain ⟨m, hmm⟩ : ∃ m, Ar.chgsS (d.take k) = m := ⟨_, rfl⟩
      rw [hmm] at HS hm
      rw [hmm]
      clear hmm
      cases x with
      | nil =>
        have h1 : (bstr ([] : List UInt8)).size = 0 := rfl
        have HE : Hid (Ar.chgsS (d.take (k + 1)) = m) := Lib.hid HS.out
        generalize bstr ([] : List UInt8) = sx at *
        clear hx HS
        go_wp2_with fail
        go_roundw
        case rel => exact ⟨k + 1, _, by omega, by go_num, by rw [HE.out], rfl⟩
        case measure => simp [RowKit.intOf]; omega
      | cons c r =>
        have hlt0 : 0 < (bstr (c :: r)).size := by rw [bstr_size]; simp
        have hc : (bstr (c :: r))[0]'hlt0 = c := rfl
        by_cases h61 : c = 61
        · have HE : Hid (Ar.chgsS (d.take (k + 1)) = m) := Lib.hid (by rw [HS.out, show Ar.chgS (c :: r) = if c = 61 then 0 else 1 from rfl, if_pos h61]; rfl)
          have hy : ((((bstr (c :: r))[0]'hlt0).toNat : Int) != 61) = false := by rw [hc, h61]; rfl
          clear hx HS hc h61
          generalize bstr (c :: r) = sx at *
          go_wp2_with fail
          go_roundw
          case rel => exact ⟨k + 1, _, by omega, by go_num, by rw [HE.out], rfl⟩
          case measure => simp [RowKit.intOf]; omega
        · have HE : Hid (Ar.chgsS (d.take (k + 1)) = m + 1) := Lib.hid (by rw [HS.out, show Ar.chgS (c :: r) = if c = 61 then 0 else 1 from rfl, if_neg h61])
          have hcn : c.toNat ≠ 61 := fun h => h61 (Ar.byte_ext (by rw [h]; rfl))
          have hy : ((((bstr (c :: r))[0]'hlt0).toNat : Int) != 61) = true := by rw [hc, bne_iff_ne]; omega
          clear hx HS hc h61 hcn
          generalize bstr (c :: r) = sx at *
          go_wp2_with fail
          go_roundw
          case rel => exact ⟨k + 1, _, by omega, by go_num, by rw [HE.out]; go_num, rfl⟩
          case measure => simp [RowKit.intOf]; omega
    · obtain rfl : k = d.length := by omega
      have HE : Hid (Ar.chgsS (d.take d.length) = Ar.chgsS d) := Lib.hid (by rw [List.take_length])
      rw [HE.out]
      go_wp2_with fail
      go_ret
      exact ⟨rfl, q, rfl⟩
end Go.Proofs.YteadlcncnhbmjaaGreatDoor
