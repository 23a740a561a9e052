/- The texts Kq, Cq, Cs, Cv, Cw of this proof, one behind the other. -/
import Derived.BigQuiet
import Derived.Test.YtiidljciaccidaaGreatDoorMaz
import Derived.Test.YtiidljciaccidaaGreatDoorMaw
set_option linter.unusedSimpArgs false
set_option maxHeartbeats 16000000
set_option maxRecDepth 100000
set_option linter.unusedVariables false
/- The text Kq. -/
namespace Go.Proofs.YtiidljciaccidaaGreatDoor
open Go.RowKit Go.Lib
set_option linter.unusedVariables false
set_option linter.unusedSimpArgs false
theorem take_more {L : List Int} {k : Nat} {z : Int} (h : L[k]? = some z) : L.take (k + 1) = L.take k ++ [z] := by rw [List.take_add_one, h]; rfl
theorem rsame_ints (x y : List Int) (n m : Nat) (A B : Option Addr) (cap capb : Nat) (w : World) (hxn : x.length = n) (hym : y.length = m) (hA : Rd w A n (intL x)) (hB : Rd w B m (intL y)) (hx : n ≤ 1000000) :
  Calls Tryz.prog 6 #[.slice A n cap, .slice B m capb] w fun e w' => e = .returned (.bool (decide (x = y))) ∧ Below w.heap.size w w' := by
 obtain ⟨R, hR⟩ : ∃ R, R = decide (x = y) := ⟨_, rfl⟩
 have HR := hid hR
 have HX := hid hxn
 have HY := hid hym
 have HA := hid hA
 have HBR := hid hB
 rw [← hR]
 clear hR hxn hym hA hB
 by_cases hnm : n = m
 ·subst hnm
  go_enter Tryz.func6, Tryz.ntmps6
  have hbn : ((n : Int) != (n : Int)) = false := by simp
  go_wp2_with fail
  go_loopw [5] (fun ix wr => ∃ k : Nat, k ≤ n ∧ ix = .int .i64 (k : Int) ∧ Hid (x.take k = y.take k) ∧ Below w.heap.size w wr) (fun ix _ => n - (RowKit.intOf ix).toNat)
  case atStart => exact ⟨0, Nat.zero_le _, rfl, hid rfl, Below.refl _ _⟩
  case round =>
   obtain ⟨k, hk, rfl, HT, hb⟩ := hrel
   have HB := hid hb
   clear hb
   by_cases hlt : k < n
   ·obtain ⟨p, hp⟩ : ∃ p, x[k]? = some p := ⟨_, List.getElem?_eq_getElem (by have := HX.out; omega)⟩
    obtain ⟨q, hq⟩ : ∃ q, y[k]? = some q := ⟨_, List.getElem?_eq_getElem (by have := HY.out; omega)⟩
    obtain ⟨ga, oa, rfl, hca⟩ := (HA.out.below HB.out).2 k _ (intL_at hp)
    obtain ⟨gb, ob, rfl, hcb⟩ := (HBR.out.below HB.out).2 k _ (intL_at hq)
    have HP := hid hp
    have HQ := hid hq
    have hck : k + 1 ≤ n := hlt
    clear hp hq
    by_cases hpq : p = q
    ·subst hpq
     have hbn2 : (p != p) = false := by simp
     have HT2 : Hid (x.take (k + 1) = y.take (k + 1)) := hid (by rw [take_more HP.out, take_more HQ.out, HT.out])
     go_wp2_with fail
     go_quiet (fail)
     go_wp2_with fail
     go_roundw
     case rel => exact ⟨k + 1, hck, by go_num, HT2, below_drewN HB.out _⟩
     case measure => simp [RowKit.intOf]; omega
    ·have hbn2 : (p != q) = true := by simp; exact hpq
     have HRF : Hid (R = false) := hid (by rw [HR.out]; exact decide_eq_false (fun h => hpq (by have h1 := HP.out; rw [h, HQ.out] at h1; injection h1 with h1; exact h1.symm)))
     clear hpq
     go_wp2_with fail
     go_quiet (fail)
     go_wp2_with fail
     go_ret
     exact ⟨by rw [HRF.out]; rfl, below_drewN HB.out _⟩
   ·obtain rfl : k = n := by omega
    have HRT : Hid (R = true) := hid (by
     rw [HR.out]
     have := HT.out
     have h1 := HX.out
     rw [← h1, List.take_length, h1, ← HY.out, List.take_length] at this
     rw [this]; simp)
    go_wp2_with fail
    go_ret
    exact ⟨by rw [HRT.out]; rfl, HB.out⟩
 ·have HRF : Hid (R = false) := hid (by rw [HR.out]; exact decide_eq_false (fun h => hnm (by rw [← HX.out, ← HY.out, h])))
  go_enter Tryz.func6, Tryz.ntmps6
  have hbn : ((n : Int) != (m : Int)) = true := by simp; omega
  clear hnm
  go_wp2_with fail
  go_ret
  exact ⟨by rw [HRF.out]; rfl, Below.refl _ _⟩
end Go.Proofs.YtiidljciaccidaaGreatDoor
/- The text Cq. -/
namespace Co
def stepR (l : List Ev) (prev : List Int) : List Ev → List Int → List Int
  | [], set => set
  | e :: r, set => stepR l prev r (if (authOf l e.id).any (fun a => prev.contains a) && !set.contains e.id then set ++ [e.id] else set)
def setR (l : List Ev) (b : Int) : Nat → List Int
  | 0 => [b]
  | i + 1 => stepR l (setR l b i) l []
def downR (l : List Ev) (b : Int) : Nat → Int → List Int
  | 0, _ => []
  | n + 1, at_ => (least (fun a => (setR l b n).contains a) (authOf l at_)).getD 0 :: downR l b n ((least (fun a => (setR l b n).contains a) (authOf l at_)).getD 0)
def pathR (l : List Ev) (a b : Int) (n : Nat) : Option (List Int) := if (getE l b).isSome && (setR l b n).contains a then some (a :: downR l b n a) else none
def firstR (l : List Ev) (a b : Int) : Nat → Nat → List Int
  | 0, _ => []
  | f + 1, n => match pathR l a b n with
    | some p => p
    | none => firstR l a b f (n + 1)
def pathQ (l : List Ev) (a b : Int) : List Int := if (getE l a).isSome then firstR l a b l.length 0 else []
theorem stepR_mem {l : List Ev} {prev : List Int} : ∀ (r : List Ev) (set : List Int) (x : Int), x ∈ stepR l prev r set ↔ x ∈ set ∨ (x ∈ idsOf r ∧ ∃ a, a ∈ authOf l x ∧ a ∈ prev)
  | [], set, x => by unfold stepR idsOf; simp
  | e :: r, set, x => by
    unfold stepR
    rw [stepR_mem r]
    have hany : (authOf l e.id).any (fun a => prev.contains a) = true ↔ ∃ a, a ∈ authOf l e.id ∧ a ∈ prev := by simp
    have hids : x ∈ idsOf (e :: r) ↔ x = e.id ∨ x ∈ idsOf r := by unfold idsOf; simp
    rw [hids]
    by_cases hc : ((authOf l e.id).any (fun a => prev.contains a) && !set.contains e.id) = true
    · rw [if_pos hc, List.mem_append, List.mem_singleton]
      rw [Bool.and_eq_true, hany] at hc
      constructor
      · rintro ((h | rfl) | ⟨h1, h2⟩)
        · exact .inl h
        · exact .inr ⟨.inl rfl, hc.1⟩
        · exact .inr ⟨.inr h1, h2⟩
      · rintro (h | ⟨rfl | h1, h2⟩)
        · exact .inl (.inl h)
        · exact .inl (.inr rfl)
        · exact .inr ⟨h1, h2⟩
    · rw [if_neg hc]
      rw [Bool.and_eq_true, hany] at hc
      constructor
      · rintro (h | ⟨h1, h2⟩)
        · exact .inl h
        · exact .inr ⟨.inr h1, h2⟩
      · rintro (h | ⟨rfl | h1, h2⟩)
        · exact .inl h
        · by_cases hs : e.id ∈ set
          · exact .inl hs
          · exact absurd ⟨h2, by simpa using hs⟩ hc
        · exact .inr ⟨h1, h2⟩
theorem setR_mem {l : List Ev} {b : Int} : ∀ (n : Nat) (x : Int), x ∈ setR l b n ↔ Wk l b n x
  | 0, x => by unfold setR Wk; simp
  | n + 1, x => by
    unfold setR Wk
    rw [stepR_mem]
    simp only [List.not_mem_nil, false_or]
    constructor
    · rintro ⟨h1, a, h2, h3⟩; exact ⟨h1, a, h2, (setR_mem n a).1 h3⟩
    · rintro ⟨h1, a, h2, h3⟩; exact ⟨h1, a, h2, (setR_mem n a).2 h3⟩
theorem down_same {l : List Ev} {b : Int} : ∀ (n : Nat) (x : Int), Min l b n x → downR l b n x = downF l (dist l b) n x
  | 0, _, _ => rfl
  | n + 1, x, h => by
    have hp : least (fun a => (setR l b n).contains a) (authOf l x) = least (fun a => dist l b a == some n) (authOf l x) := by
      refine least_congr (fun a ha => ?_)
      rw [Bool.eq_iff_iff, List.contains_iff_mem, beq_iff_eq, setR_mem, (dist_is l b) a n]
      constructor
      · intro hw
        exact ⟨hw, fun j hj hwj => h.2 (j + 1) (by omega) ⟨h.1.1, a, ha, hwj⟩⟩
      · exact fun hm => hm.1
    unfold downR downF
    rw [hp]
    cases hl : least (fun a => dist l b a == some n) (authOf l x) with
    | none =>
      obtain ⟨_, a, ha, hm⟩ := min_step h
      have := least_none hl a ha
      rw [((dist_is l b) a n).2 hm] at this
      simp at this
    | some y =>
      obtain ⟨_, h2, _⟩ := least_some hl
      have hy : dist l b y = some n := by simpa using h2
      simp only [Option.getD_some]
      rw [down_same n y (((dist_is l b) y n).1 hy)]
theorem nodup_len : ∀ (s l : List Int), s.Nodup → (∀ x, x ∈ s → x ∈ l) → s.length ≤ l.length
  | [], l, _, _ => Nat.zero_le _
  | x :: s, l, hn, hs => by
    rw [List.nodup_cons] at hn
    have hx := hs x (List.mem_cons_self ..)
    have := nodup_len s (l.erase x) hn.2 (fun y hy => (List.mem_erase_of_ne (fun (e : y = x) => hn.1 (by rw [← e]; exact hy))).2 (hs y (List.mem_cons_of_mem _ hy)))
    rw [List.length_erase_of_mem hx] at this
    have hp : 0 < l.length := List.length_pos_of_mem hx
    rw [List.length_cons]
    omega
theorem min_list {l : List Ev} {b : Int} (hb : b ∈ idsOf l) : ∀ (n : Nat) (x : Int), Min l b n x → ∃ s : List Int, s.length = n + 1 ∧ s.Nodup ∧ (∀ y, y ∈ s → y ∈ idsOf l) ∧ ∀ y, y ∈ s → ∃ m, m ≤ n ∧ Min l b m y
  | 0, x, h => ⟨[x], rfl, by simp, fun y hy => by rw [List.mem_singleton.1 hy]; exact (show x = b from h.1) ▸ hb, fun y hy => ⟨0, Nat.le_refl _, by rw [List.mem_singleton.1 hy]; exact h⟩⟩
  | n + 1, x, h => by
    obtain ⟨h1, a, _, h2⟩ := min_step h
    obtain ⟨s, e1, e2, e3, e4⟩ := min_list hb n a h2
    refine ⟨x :: s, by rw [List.length_cons, e1], ?_, fun y hy => ?_, fun y hy => ?_⟩
    · rw [List.nodup_cons]
      refine ⟨fun hx => ?_, e2⟩
      obtain ⟨m, h3, h4⟩ := e4 x hx
      have := min_one h h4
      omega
    · rcases List.mem_cons.1 hy with rfl | hy
      · exact h1
      · exact e3 y hy
    · rcases List.mem_cons.1 hy with rfl | hy
      · exact ⟨n + 1, Nat.le_refl _, h⟩
      · obtain ⟨m, h3, h4⟩ := e4 y hy
        exact ⟨m, by omega, h4⟩
theorem min_lt {l : List Ev} {b x : Int} {n : Nat} (hb : b ∈ idsOf l) (h : Min l b n x) : n < l.length := by
  obtain ⟨s, e1, e2, e3, _⟩ := min_list hb n x h
  have := nodup_len s (idsOf l) e2 e3
  unfold idsOf at this
  rw [List.length_map] at this
  omega
theorem firstR_none {l : List Ev} {a b : Int} : ∀ (f n : Nat), (∀ m, pathR l a b m = none) → firstR l a b f n = []
  | 0, _, _ => rfl
  | f + 1, n, h => by unfold firstR; rw [h n]; exact firstR_none f (n + 1) h
theorem firstR_at {l : List Ev} {a b : Int} {k : Nat} {p : List Int} (hk : pathR l a b k = some p) (hn : ∀ m, m < k → pathR l a b m = none) : ∀ (f n : Nat), n ≤ k → k < n + f → firstR l a b f n = p
  | 0, n, h1, h2 => by omega
  | f + 1, n, h1, h2 => by
    unfold firstR
    by_cases he : n = k
    · subst he; rw [hk]
    · rw [hn n (by omega)]
      exact firstR_at hk hn f (n + 1) (by omega) (by omega)
theorem path_same (l : List Ev) (a b : Int) : pathQ l a b = pathP l a b := by
  unfold pathQ pathP
  cases ha : (getE l a).isSome with
  | false => rfl
  | true =>
    rw [if_pos rfl, Bool.true_and]
    cases hb : (getE l b).isSome with
    | false =>
      rw [if_neg Bool.false_ne_true]
      exact firstR_none _ _ (fun m => by unfold pathR; rw [hb]; rfl)
    | true =>
      rw [if_pos rfl]
      have hb2 := get_known.1 hb
      cases hd : dist l b a with
      | none =>
        refine firstR_none _ _ (fun m => ?_)
        unfold pathR
        rw [hb, Bool.true_and, if_neg]
        rw [List.contains_iff_mem, setR_mem]
        intro hw
        obtain ⟨k, _, hk⟩ := min_of_walk m a hw
        rw [((dist_is l b) a k).2 hk] at hd
        cases hd
      | some n =>
        have hm := ((dist_is l b) a n).1 hd
        have hlt := min_lt hb2 hm
        refine firstR_at (k := n) ?_ (fun m hmn => ?_) l.length 0 (Nat.zero_le _) (by omega)
        · unfold pathR
          rw [hb, Bool.true_and, if_pos (by rw [List.contains_iff_mem, setR_mem]; exact hm.1), down_same n a hm]
        · unfold pathR
          rw [hb, Bool.true_and, if_neg]
          rw [List.contains_iff_mem, setR_mem]
          exact hm.2 m hmn
def nextR (l : List Ev) (s : List Int) (x : Int) : Prop := x ∈ idsOf l ∧ ∃ y, y ∈ s ∧ x ∈ authOf l y
def ReachN (l : List Ev) (a : Int) : Nat → Int → Prop
  | 0, x => x ∈ idsOf l ∧ x ∈ authOf l a
  | n + 1, x => ReachN l a n x ∨ (x ∈ idsOf l ∧ ∃ y, ReachN l a n y ∧ x ∈ authOf l y)
theorem reach_walk {l : List Ev} {a : Int} (ha : a ∈ idsOf l) : ∀ (n : Nat) (b : Int), ReachN l a n b → ∃ m, Wk l b (m + 1) a := by
  -- a way from a to x, and one step on, is a way from a
  have app : ∀ (m : Nat) (x b z : Int), Wk l x m z → x ∈ idsOf l → b ∈ authOf l x → Wk l b (m + 1) z := by
    intro m
    induction m with
    | zero => intro x b z h hx hb; obtain rfl : z = x := h; exact ⟨hx, b, hb, rfl⟩
    | succ m ih => intro x b z h hx hb; obtain ⟨h1, c, h2, h3⟩ := h; exact ⟨h1, c, h2, ih x b c h3 hx hb⟩
  intro n
  induction n with
  | zero => intro b h; exact ⟨0, ha, b, h.2, rfl⟩
  | succ n ih =>
    intro b h
    rcases h with h | ⟨h1, y, h2, h3⟩
    · exact ih b h
    · obtain ⟨m, hm⟩ := ih y h2
      have hy : y ∈ idsOf l := by
        have : ∀ (n : Nat) (y : Int), ReachN l a n y → y ∈ idsOf l := by
          intro n
          induction n with
          | zero => intro y h; exact h.1
          | succ n ih2 => intro y h; rcases h with h | h; exact ih2 y h; exact h.1
        exact this n y h2
      exact ⟨m + 1, app (m + 1) y b a hm hy h3⟩
theorem walk_reach {l : List Ev} {b : Int} (hb : b ∈ idsOf l) : ∀ (n : Nat) (a : Int), Wk l b (n + 1) a → ReachN l a n b := by
  have up : ∀ (n : Nat) (a x : Int), ReachN l a n x → ReachN l a (n + 1) x := fun n a x h => .inl h
  -- one step ahead of a way
  have pre : ∀ (n : Nat) (a c x : Int), c ∈ idsOf l → c ∈ authOf l a → ReachN l c n x → ReachN l a (n + 1) x := by
    intro n
    induction n with
    | zero => intro a c x hc hca h; exact .inr ⟨h.1, c, ⟨hc, hca⟩, h.2⟩
    | succ n ih =>
      intro a c x hc hca h
      rcases h with h | ⟨h1, y, h2, h3⟩
      · exact .inl (ih a c x hc hca h)
      · exact .inr ⟨h1, y, ih a c y hc hca h2, h3⟩
  intro n
  induction n with
  | zero => intro a h; obtain ⟨h1, c, h2, h3⟩ := h; obtain rfl : c = b := h3; exact ⟨hb, h2⟩
  | succ n ih =>
    intro a h
    obtain ⟨h1, c, h2, h3⟩ := h
    exact pre n a c b h3.1 h2 (ih c h3)
theorem reach_mono {l : List Ev} {a x : Int} {n m : Nat} (h : ReachN l a n x) (hm : n ≤ m) : ReachN l a m x := by
  induction m with
  | zero => obtain rfl : n = 0 := by omega
            exact h
  | succ m ih =>
    by_cases he : n = m + 1
    · subst he; exact h
    · exact .inl (ih (by omega))
theorem reached_path (l : List Ev) (a b : Int) : decide (pathP l a b ≠ []) = true ↔ (a ∈ idsOf l ∧ b ∈ idsOf l ∧ (a = b ∨ ReachN l a l.length b)) := by
  rw [decide_eq_true_eq]
  unfold pathP
  cases ha : (getE l a).isSome with
  | false =>
    have : ¬ a ∈ idsOf l := fun h => by rw [get_known.2 h] at ha; cases ha
    simp [this]
  | true =>
    cases hb : (getE l b).isSome with
    | false =>
      have : ¬ b ∈ idsOf l := fun h => by rw [get_known.2 h] at hb; cases hb
      simp [this]
    | true =>
      have ha2 := get_known.1 ha
      have hb2 := get_known.1 hb
      rw [Bool.true_and, if_pos rfl]
      cases hd : dist l b a with
      | none =>
        have hno : ∀ n, ¬ Wk l b n a := fun n hw => by
          obtain ⟨k, _, hk⟩ := min_of_walk n a hw
          rw [((dist_is l b) a k).2 hk] at hd
          cases hd
        refine ⟨fun h => absurd rfl h, fun ⟨_, _, h⟩ => ?_⟩
        rcases h with rfl | h
        · exact absurd rfl (hno 0)
        · obtain ⟨m, hm⟩ := reach_walk ha2 _ b h
          exact absurd hm (hno _)
      | some n =>
        have hm := ((dist_is l b) a n).1 hd
        have hlt := min_lt hb2 hm
        refine ⟨fun _ => ⟨ha2, hb2, ?_⟩, fun _ => List.cons_ne_nil _ _⟩
        rcases n with _ | n
        · exact .inl hm.1
        · exact .inr (reach_mono (walk_reach hb2 n a hm.1) (by omega))
end Co
/- The text Cs. -/
namespace Co
def putU (x : Int) : List Int → List Int
 | [] => [x]
 | y :: r => if x < y then x :: y :: r else if x = y then y :: r else y :: putU x r
def sortU (l : List Int) : List Int := l.foldl (fun s x => putU x s) []
def Incr (l : List Int) : Prop := l.Pairwise (· < ·)
theorem mem_putU {x y : Int} : ∀ {l : List Int}, y ∈ putU x l ↔ y = x ∨ y ∈ l
 | [] => by simp [putU]
 | z :: r => by
  unfold putU
  by_cases h1 : x < z
  ·rw [if_pos h1]; simp
  ·rw [if_neg h1]
   by_cases h2 : x = z
   ·rw [if_pos h2]; simp [h2]
   ·rw [if_neg h2, List.mem_cons, mem_putU, List.mem_cons]
    constructor
    ·rintro (h | h | h)
     ·exact .inr (.inl h)
     ·exact .inl h
     ·exact .inr (.inr h)
    ·rintro (h | h | h)
     ·exact .inr (.inl h)
     ·exact .inl h
     ·exact .inr (.inr h)
theorem incr_putU {x : Int} : ∀ {l : List Int}, Incr l → Incr (putU x l)
 | [], _ => List.pairwise_singleton _ _
 | z :: r, h => by
  unfold putU
  have h' := List.pairwise_cons.1 h
  by_cases h1 : x < z
  ·rw [if_pos h1]
   refine List.pairwise_cons.2 ⟨fun y hy => ?_, h⟩
   rcases List.mem_cons.1 hy with rfl | hy
   ·exact h1
   ·exact Int.lt_trans h1 (h'.1 y hy)
  ·rw [if_neg h1]
   by_cases h2 : x = z
   ·rw [if_pos h2]; exact h
   ·rw [if_neg h2]
    refine List.pairwise_cons.2 ⟨fun y hy => ?_, incr_putU h'.2⟩
    rcases mem_putU.1 hy with rfl | hy
    ·omega
    ·exact h'.1 y hy
theorem fold_put : ∀ (l s : List Int), Incr s → Incr (l.foldl (fun s x => putU x s) s) ∧ ∀ y, y ∈ l.foldl (fun s x => putU x s) s ↔ y ∈ s ∨ y ∈ l
 | [], s, h => ⟨h, fun y => by simp⟩
 | x :: l, s, h => by
  obtain ⟨h1, h2⟩ := fold_put l (putU x s) (incr_putU h)
  refine ⟨h1, fun y => ?_⟩
  rw [List.foldl_cons, h2, mem_putU, List.mem_cons]
  constructor
  ·rintro ((h | h) | h)
   ·exact .inr (.inl h)
   ·exact .inl h
   ·exact .inr (.inr h)
  ·rintro (h | h | h)
   ·exact .inl (.inr h)
   ·exact .inl (.inl h)
   ·exact .inr h
theorem incr_sortU (l : List Int) : Incr (sortU l) := (fold_put l [] List.Pairwise.nil).1
theorem mem_sortU {l : List Int} {y : Int} : y ∈ sortU l ↔ y ∈ l := by
 have := (fold_put l [] List.Pairwise.nil).2 y
 unfold sortU
 rw [this]
 simp
theorem incr_ext : ∀ {a b : List Int}, Incr a → Incr b → (∀ x, x ∈ a ↔ x ∈ b) → a = b
 | [], [], _, _, _ => rfl
 | [], y :: r, _, _, h => by have := (h y).2 (List.mem_cons_self ..); cases this
 | x :: r, [], _, _, h => by have := (h x).1 (List.mem_cons_self ..); cases this
 | x :: r, y :: t, ha, hb, h => by
  have ha' := List.pairwise_cons.1 ha
  have hb' := List.pairwise_cons.1 hb
  have e : x = y := by
   rcases List.mem_cons.1 ((h x).1 (List.mem_cons_self ..)) with h1 | h1
   ·exact h1
   ·rcases List.mem_cons.1 ((h y).2 (List.mem_cons_self ..)) with h2 | h2
    ·exact h2.symm
    ·have := hb'.1 x h1; have := ha'.1 y h2; omega
  subst e
  rw [incr_ext ha'.2 hb'.2 (fun z => ?_)]
  constructor
  ·intro hz
   rcases List.mem_cons.1 ((h z).1 (List.mem_cons_of_mem _ hz)) with h1 | h1
   ·have := ha'.1 z hz; omega
   ·exact h1
  ·intro hz
   rcases List.mem_cons.1 ((h z).2 (List.mem_cons_of_mem _ hz)) with h1 | h1
   ·have := hb'.1 z hz; omega
   ·exact h1
theorem sort_incr {l : List Int} (h : Incr l) : sortU l = l := incr_ext (incr_sortU l) h (fun _ => mem_sortU)
theorem incr_nodup {l : List Int} (h : Incr l) : l.Nodup := List.Pairwise.imp (fun {a b} (h : a < b) => by omega) h
inductive Rch (l : List Ev) (f : Int → List Int) (s : List Int) : Int → Prop
 | base (x : Int) (h : x ∈ s) (hk : x ∈ idsOf l) : Rch l f s x
 | step (y x : Int) (h : Rch l f s y) (hx : x ∈ f y) (hk : x ∈ idsOf l) : Rch l f s x
def nextU (l : List Ev) (f : Int → List Int) (s : List Int) : List Int := sortU ((s.flatMap f).filter fun x => (getE l x).isSome)
def reachF (l : List Ev) (f : Int → List Int) : Nat → List Int → List Int
 | 0, s => s
 | n + 1, s => reachF l f n (sortU (s ++ nextU l f s))
def knownU (l : List Ev) (s : List Int) : List Int := sortU (s.filter fun x => (getE l x).isSome)
theorem mem_knownU {l : List Ev} {s : List Int} {x : Int} : x ∈ knownU l s ↔ x ∈ s ∧ x ∈ idsOf l := by unfold knownU; rw [mem_sortU, List.mem_filter, get_known]
theorem mem_nextU {l : List Ev} {f : Int → List Int} {s : List Int} {x : Int} : x ∈ nextU l f s ↔ (∃ y, y ∈ s ∧ x ∈ f y) ∧ x ∈ idsOf l := by unfold nextU; rw [mem_sortU, List.mem_filter, get_known, List.mem_flatMap]
theorem reachF_incr (l : List Ev) (f : Int → List Int) : ∀ (n : Nat) (s : List Int), Incr s → Incr (reachF l f n s)
 | 0, s, h => h
 | n + 1, s, _ => reachF_incr l f n _ (incr_sortU _)
theorem reachF_sub (l : List Ev) (f : Int → List Int) : ∀ (n : Nat) (s : List Int) (x : Int), x ∈ s → x ∈ reachF l f n s
 | 0, _, _, h => h
 | n + 1, s, x, h => reachF_sub l f n _ x (mem_sortU.2 (List.mem_append.2 (.inl h)))
def Shut (l : List Ev) (f : Int → List Int) (s : List Int) : Prop := ∀ y, y ∈ s → ∀ x, x ∈ f y → x ∈ idsOf l → x ∈ s
theorem reachF_shut {l : List Ev} {f : Int → List Int} : ∀ (n : Nat) (s : List Int), Incr s → (∀ x, x ∈ s → x ∈ idsOf l) → l.length ≤ n + s.length → Shut l f (reachF l f n s)
 | 0, s, hi, hs, hn => by
  intro y hy x hx hk
  show x ∈ s
  by_cases hxs : x ∈ s
  ·exact hxs
  ·have := nodup_len (x :: s) (idsOf l) (List.nodup_cons.2 ⟨hxs, incr_nodup hi⟩) (fun z hz => by
    rcases List.mem_cons.1 hz with rfl | hz
    ·exact hk
    ·exact hs z hz)
   unfold idsOf at this
   rw [List.length_map, List.length_cons] at this
   omega
 | n + 1, s, hi, hs, hn => by
  show Shut l f (reachF l f n (sortU (s ++ nextU l f s)))
  have hsub : ∀ x, x ∈ s → x ∈ sortU (s ++ nextU l f s) := fun x hx => mem_sortU.2 (List.mem_append.2 (.inl hx))
  have hin : ∀ x, x ∈ sortU (s ++ nextU l f s) → x ∈ idsOf l := fun x hx => by
   rcases List.mem_append.1 (mem_sortU.1 hx) with h | h
   ·exact hs x h
   ·exact (mem_nextU.1 h).2
  by_cases he : ∀ x, x ∈ nextU l f s → x ∈ s
  ·have e : sortU (s ++ nextU l f s) = s := incr_ext (incr_sortU _) hi (fun x => by
    rw [mem_sortU, List.mem_append]
    exact ⟨fun h => h.elim id (he x), .inl⟩)
   have hst : ∀ (n : Nat), reachF l f n s = s := by
    intro n
    induction n with
    | zero => rfl
    | succ n ih => show reachF l f n (sortU (s ++ nextU l f s)) = s; rw [e]; exact ih
   rw [e, hst]
   exact fun y hy x hx hk => he x (mem_nextU.2 ⟨⟨y, hy, hx⟩, hk⟩)
  ·have hlt : s.length < (sortU (s ++ nextU l f s)).length := by
    obtain ⟨x, hx⟩ := Classical.not_forall.1 he
    obtain ⟨h1, h2⟩ := Classical.not_imp.1 hx
    have := nodup_len (x :: s) (sortU (s ++ nextU l f s)) (List.nodup_cons.2 ⟨h2, incr_nodup hi⟩) (fun z hz => by
     rcases List.mem_cons.1 hz with rfl | hz
     ·exact mem_sortU.2 (List.mem_append.2 (.inr h1))
     ·exact hsub z hz)
    rw [List.length_cons] at this
    omega
   exact reachF_shut n _ (incr_sortU _) hin (by omega)
theorem reachF_rch {l : List Ev} {f : Int → List Int} {s0 : List Int} : ∀ (n : Nat) (s : List Int), (∀ x, x ∈ s → Rch l f s0 x) → ∀ x, x ∈ reachF l f n s → Rch l f s0 x
 | 0, _, h, x, hx => h x hx
 | n + 1, s, h, x, hx => reachF_rch n _ (fun y hy => by
   rcases List.mem_append.1 (mem_sortU.1 hy) with h1 | h1
   ·exact h y h1
   ·obtain ⟨⟨z, h2, h3⟩, h4⟩ := mem_nextU.1 h1
    exact .step z y (h z h2) h3 h4) x hx
theorem mem_reach {l : List Ev} {f : Int → List Int} {s : List Int} (hi : Incr s) (hs : ∀ x, x ∈ s → x ∈ idsOf l) (x : Int) : x ∈ reachF l f l.length s ↔ Rch l f s x := by
 refine ⟨reachF_rch l.length s (fun y hy => .base y hy (hs y hy)) x, fun h => ?_⟩
 have hsh := reachF_shut (l := l) (f := f) l.length s hi hs (by omega)
 induction h with
 | base x h hk => exact reachF_sub l f _ s x h
 | step y x h hx hk ih => exact hsh y ih x hx hk
def chainU (l : List Ev) (s : List Int) : List Int := reachF l (authOf l) l.length (nextU l (authOf l) (knownU l s))
theorem chain_incr (l : List Ev) (s : List Int) : Incr (chainU l s) := reachF_incr _ _ _ _ (incr_sortU _)
theorem mem_chain {l : List Ev} {s : List Int} (x : Int) : x ∈ chainU l s ↔ Rch l (authOf l) (nextU l (authOf l) (knownU l s)) x := mem_reach (incr_sortU _) (fun _ hx => (mem_nextU.1 hx).2) x
theorem rch_iff {l : List Ev} {a : Int} (ha : a ∈ idsOf l) (x : Int) : Rch l (authOf l) (nextU l (authOf l) (knownU l [a])) x ↔ ∃ n, ReachN l a n x := by
 constructor
 ·intro h
  induction h with
  | base x h hk =>
   obtain ⟨⟨y, h1, h2⟩, h3⟩ := mem_nextU.1 h
   have : y = a := by simpa using (mem_knownU.1 h1).1
   subst this
   exact ⟨0, hk, h2⟩
  | step y x h hx hk ih => obtain ⟨n, hn⟩ := ih; exact ⟨n + 1, .inr ⟨hk, y, hn, hx⟩⟩
 ·rintro ⟨n, hn⟩
  induction n generalizing x with
  | zero => exact .base x (mem_nextU.2 ⟨⟨a, mem_knownU.2 ⟨by simp, ha⟩, hn.2⟩, hn.1⟩) hn.1
  | succ n ih =>
   rcases hn with h | ⟨h1, y, h2, h3⟩
   ·exact ih x h
   ·exact .step y x (ih y h2) h3 h1
def reachedB (l : List Ev) (a b : Int) : Bool := (getE l a).isSome && ((getE l b).isSome && (a == b || (chainU l [a]).contains b))
theorem reached_is (l : List Ev) (a b : Int) : decide (0 < (pathP l a b).length) = reachedB l a b := by
 have e : decide (0 < (pathP l a b).length) = decide (pathP l a b ≠ []) := by
  congr 1
  rw [List.length_pos_iff]
 rw [e, Bool.eq_iff_iff, reached_path]
 unfold reachedB
 rw [Bool.and_eq_true, Bool.and_eq_true, Bool.or_eq_true, get_known, get_known, beq_iff_eq, List.contains_iff_mem, mem_chain]
 constructor
 ·rintro ⟨h1, h2, h3⟩
  refine ⟨h1, h2, h3.imp id (fun h => (rch_iff h1 b).2 ⟨_, h⟩)⟩
 ·rintro ⟨h1, h2, h3⟩
  refine ⟨h1, h2, ?_⟩
  rcases h3 with h3 | h3
  ·exact .inl h3
  ·obtain ⟨n, hn⟩ := (rch_iff h1 b).1 h3
   obtain ⟨m, hm⟩ := reach_walk h1 n b hn
   obtain ⟨k, hk1, hk⟩ := min_of_walk _ _ hm
   have hlt := min_lt h2 hk
   rcases k with _ | k
   ·exact .inl hk.1
   ·exact .inr (reach_mono (walk_reach h2 k a hk.1) (by omega))
end Co
/- The text Cv. -/
namespace Co
theorem putU_has {x : Int} {l : List Int} (h : Incr l) (hx : x ∈ l) : putU x l = l := incr_ext (incr_putU h) h fun y => by
 rw [mem_putU]
 constructor
 ·rintro (rfl | h1)
  ·exact hx
  ·exact h1
 ·exact fun h1 => .inr h1
theorem putU_at {x : Int} : ∀ {l : List Int} (k : Nat), (∀ y, y ∈ l.take k → y < x) → (∀ y, l[k]? = some y → x < y) → k ≤ l.length → putU x l = l.take k ++ [x] ++ l.drop k
 | [], k, _, _, hk => by
  obtain rfl : k = 0 := by simpa using hk
  rfl
 | y :: r, 0, _, h2, _ => by
  have := h2 y rfl
  show putU x (y :: r) = x :: y :: r
  unfold putU
  rw [if_pos this]
 | y :: r, k + 1, h1, h2, hk => by
  have hy := h1 y (by simp)
  show putU x (y :: r) = y :: (r.take k ++ [x] ++ r.drop k)
  unfold putU
  rw [if_neg (by omega), if_neg (by omega), putU_at k (fun z hz => h1 z (by simp [hz])) (fun z hz => h2 z hz) (by simpa using hk)]
theorem sortU_snoc (l : List Int) (x : Int) : sortU (l ++ [x]) = putU x (sortU l) := by unfold sortU; rw [List.foldl_append]; rfl
theorem sortU_step {l : List Int} {k : Nat} {x : Int} (h : l[k]? = some x) : sortU (l.take (k + 1)) = putU x (sortU (l.take k)) := by rw [List.take_add_one, h]; exact sortU_snoc _ _
theorem sortU_next (a : List Int) {l : List Int} {k : Nat} {x : Int} (h : l[k]? = some x) : sortU (a ++ l.take (k + 1)) = putU x (sortU (a ++ l.take k)) := by rw [List.take_add_one, h, ← List.append_assoc]; exact sortU_snoc _ _
theorem putU_len (x : Int) : ∀ l : List Int, (putU x l).length ≤ l.length + 1
 | [] => by simp [putU]
 | y :: r => by
  unfold putU
  split
  ·simp
  ·split
   ·simp
   ·have := putU_len x r; simp; omega
theorem sortU_len : ∀ l : List Int, (sortU l).length ≤ l.length := by
 have key : ∀ (l s : List Int), (l.foldl (fun s x => putU x s) s).length ≤ s.length + l.length := by
  intro l
  induction l with
  | nil => intro s; simp
  | cons x l ih => intro s; have h1 := ih (putU x s); have h2 := putU_len x s; simp only [List.foldl_cons, List.length_cons]; omega
 intro l
 have := key l []
 simpa [sortU] using this
theorem incr_short {l : List Ev} {s : List Int} (h : Incr s) (hs : ∀ x, x ∈ s → x ∈ idsOf l) : s.length ≤ l.length := by
 have := nodup_len s (idsOf l) (incr_nodup h) hs
 unfold idsOf at this
 rwa [List.length_map] at this
def isKnown (l : List Ev) (x : Int) : Bool := (getE l x).isSome
def nextK (l : List Ev) (s r : List Int) : List Int := sortU ((s.flatMap (authOf l) ++ r).filter (isKnown l))
theorem nextK_end (l : List Ev) (s : List Int) : nextK l s [] = nextU l (authOf l) s := by unfold nextK nextU; rw [List.append_nil]; rfl
theorem nextK_over {l : List Ev} {s : List Int} {k : Nat} {x : Int} (h : s[k]? = some x) {r : List Int} (hr : r = authOf l x) : nextK l (s.take k) r = nextK l (s.take (k + 1)) [] := by
 unfold nextK
 rw [List.take_add_one, h, List.append_nil, hr]
 congr 2
 simp
theorem nextK_yes {l : List Ev} {s r : List Int} {k : Nat} {x : Int} (h : r[k]? = some x) (hx : isKnown l x = true) : nextK l s (r.take (k + 1)) = putU x (nextK l s (r.take k)) := by
 unfold nextK
 rw [List.take_add_one, h, ← List.append_assoc, List.filter_append, show (some x).toList.filter (isKnown l) = [x] by simp [hx]]
 exact sortU_snoc _ _
theorem nextK_no {l : List Ev} {s r : List Int} {k : Nat} {x : Int} (h : r[k]? = some x) (hx : isKnown l x = false) : nextK l s (r.take (k + 1)) = nextK l s (r.take k) := by
 unfold nextK
 rw [List.take_add_one, h, ← List.append_assoc, List.filter_append, show (some x).toList.filter (isKnown l) = [] by simp [hx], List.append_nil]
theorem nextK_incr (l : List Ev) (s r : List Int) : Incr (nextK l s r) := incr_sortU _
theorem nextK_sub {l : List Ev} {s r : List Int} : ∀ x, x ∈ nextK l s r → x ∈ idsOf l := fun x hx => by
 unfold nextK at hx
 rw [mem_sortU, List.mem_filter] at hx
 exact get_known.1 hx.2
theorem nextK_len (l : List Ev) (s r : List Int) : (nextK l s r).length ≤ l.length := incr_short (nextK_incr l s r) nextK_sub
theorem nextU_incr (l : List Ev) (f : Int → List Int) (s : List Int) : Incr (nextU l f s) := incr_sortU _
theorem union_sub {l : List Ev} {f : Int → List Int} {s : List Int} (hs : ∀ x, x ∈ s → x ∈ idsOf l) : ∀ x, x ∈ sortU (s ++ nextU l f s) → x ∈ idsOf l := fun x hx => by
 rw [mem_sortU, List.mem_append] at hx
 rcases hx with h | h
 ·exact hs x h
 ·exact (mem_nextU.1 h).2
theorem reach_go {l : List Ev} {f : Int → List Int} {R s : List Int} {n k : Nat} (h : reachF l f (n - k) s = R) (hk : k < n) : reachF l f (n - (k + 1)) (sortU (s ++ nextU l f s)) = R := by
 rw [← h]
 rw [show n - k = n - (k + 1) + 1 by omega]
 rfl
theorem known_one (l : List Ev) (a : Int) : knownU l [a] = if isKnown l a then [a] else [] := by
 unfold knownU isKnown
 cases h : (getE l a).isSome <;> simp [h, sortU, putU]
end Co
/- The text Cw. -/
namespace Co
def addR (prev set : List Int) (id : Int) (L : List Int) : List Int := if L.any (fun a => prev.contains a) && !set.contains id then set ++ [id] else set
theorem addR_nil (prev set : List Int) (id : Int) : addR prev set id [] = set := rfl
theorem addR_has {prev set : List Int} {id : Int} (L : List Int) (h : set.contains id = true) : addR prev set id L = set := by unfold addR; rw [h]; simp
theorem addR_yes {prev set : List Int} {id : Int} {L : List Int} {j : Nat} {z : Int} (hz : L[j]? = some z) (hp : prev.contains z = true) (hs : (addR prev set id (L.take j)).contains id = false) : addR prev set id (L.take (j + 1)) = addR prev set id (L.take j) ++ [id] := by
 have hset : set.contains id = false := by
  cases h : set.contains id with
  | false => rfl
  | true => rw [addR_has _ h, h] at hs; cases hs
 have hany : (L.take j).any (fun a => prev.contains a) = false := by
  cases h : (L.take j).any (fun a => prev.contains a) with
  | false => rfl
  | true =>
   unfold addR at hs
   rw [h, hset] at hs
   simp at hs
 have h1 : addR prev set id (L.take j) = set := by unfold addR; rw [hany]; rfl
 rw [h1]
 unfold addR
 rw [List.take_add_one, hz, List.any_append, hany, hset]
 simp only [Option.toList_some, List.any_cons, hp, Bool.true_or, Bool.or_true, Bool.not_false, Bool.true_and, if_true]
theorem addR_no {prev set : List Int} {id : Int} {L : List Int} {j : Nat} {z : Int} (hz : L[j]? = some z) (hp : prev.contains z = false ∨ (addR prev set id (L.take j)).contains id = true) : addR prev set id (L.take (j + 1)) = addR prev set id (L.take j) := by
 cases hset : set.contains id with
 | true => rw [addR_has _ hset, addR_has _ hset]
 | false =>
  rcases hp with hp | hp
  ·unfold addR
   rw [List.take_add_one, hz, List.any_append]
   simp only [Option.toList_some, List.any_cons, hp, List.any_nil, Bool.or_false]
  ·have hany : (L.take j).any (fun a => prev.contains a) = true := by
    cases h : (L.take j).any (fun a => prev.contains a) with
    | true => rfl
    | false =>
     unfold addR at hp
     rw [h] at hp
     have : set.contains id = true := hp
     rw [hset] at this
     cases this
   unfold addR
   rw [List.take_add_one, hz, List.any_append, hany, Bool.true_or]
theorem addR_len (prev set : List Int) (id : Int) (L : List Int) : (addR prev set id L).length ≤ set.length + 1 := by
 unfold addR
 split
 ·simp
 ·omega
theorem stepR_snoc {l : List Ev} {prev : List Int} : ∀ (r : List Ev) (e : Ev) (set : List Int), stepR l prev (r ++ [e]) set = addR prev (stepR l prev r set) e.id (authOf l e.id)
 | [], e, set => rfl
 | x :: r, e, set => by
  show stepR l prev (x :: (r ++ [e])) set = _
  unfold stepR
  exact stepR_snoc r e _
theorem stepR_step {l : List Ev} {prev : List Int} {k : Nat} {e : Ev} (h : l[k]? = some e) {L : List Int} (hL : L = authOf l e.id) : stepR l prev (l.take (k + 1)) [] = addR prev (stepR l prev (l.take k) []) e.id (L.take L.length) := by
 rw [List.take_add_one, h, List.take_length, hL]
 exact stepR_snoc _ _ _
theorem stepR_len {l : List Ev} {prev : List Int} : ∀ (r : List Ev) (set : List Int), (stepR l prev r set).length ≤ set.length + r.length
 | [], set => by unfold stepR; simp
 | e :: r, set => by
  unfold stepR
  have h1 := stepR_len (l := l) (prev := prev) r (if (authOf l e.id).any (fun a => prev.contains a) && !set.contains e.id then set ++ [e.id] else set)
  have h2 : (if (authOf l e.id).any (fun a => prev.contains a) && !set.contains e.id then set ++ [e.id] else set).length ≤ set.length + 1 := by
   split
   ·simp
   ·omega
  simp only [List.length_cons]
  omega
theorem setR_len (l : List Ev) (b : Int) : ∀ n : Nat, (setR l b n).length ≤ l.length + 1
 | 0 => by unfold setR; simp
 | n + 1 => by
  unfold setR
  have := stepR_len (l := l) (prev := setR l b n) l []
  simpa using Nat.le_trans this (by simp)
theorem setR_next {l : List Ev} {b : Int} {n : Nat} {S : List Int} (h : stepR l (setR l b n) (l.take l.length) [] = S) : setR l b (n + 1) = S := by
 rw [List.take_length] at h
 exact h
def setsR (l : List Ev) (b : Int) (n : Nat) : List (List Int) := (List.range (n + 1)).map (setR l b)
theorem setsR_len (l : List Ev) (b : Int) (n : Nat) : (setsR l b n).length = n + 1 := by unfold setsR; simp
theorem setsR_at {l : List Ev} {b : Int} {n i : Nat} (h : i ≤ n) : (setsR l b n)[i]? = some (setR l b i) := by
 unfold setsR
 rw [List.getElem?_map, List.getElem?_range (by omega)]
 rfl
theorem setsR_next (l : List Ev) (b : Int) (n : Nat) : setsR l b (n + 1) = setsR l b n ++ [setR l b (n + 1)] := by
 unfold setsR
 rw [List.range_succ, List.map_append]
 rfl
theorem pathR_none {l : List Ev} {a b : Int} {n : Nat} (h : (getE l b).isSome = false ∨ (setR l b n).contains a = false) : pathR l a b n = none := by
 unfold pathR
 rcases h with h | h
 ·rw [h]; rfl
 ·rw [h]; simp
theorem pathR_some {l : List Ev} {a b : Int} {n : Nat} (h1 : (getE l b).isSome = true) (h2 : (setR l b n).contains a = true) : pathR l a b n = some (a :: downR l b n a) := by
 unfold pathR
 rw [h1, h2]; rfl
theorem firstR_go {l : List Ev} {a b : Int} {R : List Int} {n : Nat} (hn : n < l.length) (h : firstR l a b (l.length - n) n = R) (hp : pathR l a b n = none) : firstR l a b (l.length - (n + 1)) (n + 1) = R := by
 rw [← h, show l.length - n = l.length - (n + 1) + 1 by omega]
 conv => rhs; unfold firstR
 rw [hp]
theorem firstR_hit {l : List Ev} {a b : Int} {R p : List Int} {n : Nat} (hn : n < l.length) (h : firstR l a b (l.length - n) n = R) (hp : pathR l a b n = some p) : R = p := by
 rw [← h, show l.length - n = l.length - (n + 1) + 1 by omega]
 unfold firstR
 rw [hp]
theorem downR_len (l : List Ev) (b : Int) : ∀ (n : Nat) (x : Int), (downR l b n x).length = n
 | 0, _ => rfl
 | n + 1, x => by unfold downR; rw [List.length_cons, downR_len l b n]
end Co
