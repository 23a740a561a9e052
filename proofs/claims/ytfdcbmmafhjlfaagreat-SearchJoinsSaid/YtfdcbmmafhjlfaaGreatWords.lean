/- Plain law: the words of a text. -/
import Derived.Test.YtfdcbmmafhjlfaaGreatStr
namespace Go.Proofs.YtfdcbmmafhjlfaaGreat
namespace Sr

def small (c : UInt8) : UInt8 := if 97 ≤ c.toNat ∧ c.toNat ≤ 122 ∨ 48 ≤ c.toNat ∧ c.toNat ≤ 57 then c else if 65 ≤ c.toNat ∧ c.toNat ≤ 90 then UInt8.ofNat (c.toNat + 32) else 0
def fl (out : List (List UInt8)) (w : List UInt8) : List (List UInt8) := if w = [] then out else out ++ [w]
abbrev St := List (List UInt8) × List UInt8
def wstep (p : St) (c : UInt8) : St := if small c = 0 then (fl p.1 p.2, []) else (p.1, p.2 ++ [small c])
def run (p : St) (s : List UInt8) : St := s.foldl wstep p
def raw (s : List UInt8) : List (List UInt8) := fl (run ([], []) s).1 (run ([], []) s).2
def words (s : List UInt8) : List (List UInt8) := names (raw s)

theorem run_append (p : St) (a b : List UInt8) : run p (a ++ b) = run (run p a) b := List.foldl_append
theorem run_snoc (p : St) (a : List UInt8) (c : UInt8) : run p (a ++ [c]) = wstep (run p a) c := by rw [run_append]; rfl
theorem fl_nil (o : List (List UInt8)) : fl o [] = o := rfl
theorem small_high (c : UInt8) (h : 128 ≤ c.toNat) : small c = 0 := by unfold small; rw [if_neg (by omega), if_neg (by omega)]
/-- bytes that separate, one or more, are like one -/
theorem run_seps (p : St) : ∀ s : List UInt8, s ≠ [] → (∀ c ∈ s, small c = 0) → run p s = (fl p.1 p.2, [])
  | [], h, _ => absurd rfl h
  | c :: s, _, h => by
    have h1 : wstep p c = (fl p.1 p.2, []) := by unfold wstep; rw [if_pos (h c (by simp))]
    show run (wstep p c) s = _
    rw [h1]
    by_cases e : s = []
    · subst e; rfl
    · rw [run_seps _ s e (fun x hx => h x (by simp [hx]))]; rfl

/-! what is gathered: the raw words with those before, and the state's word -/
def open_ (p : St) : List (List UInt8) := fl p.1 p.2
theorem run_out (o : List (List UInt8)) (w : List UInt8) : ∀ s : List UInt8, run (o, w) s = (o ++ (run ([], w) s).1, (run ([], w) s).2) := by
  intro s
  induction s generalizing o w with
  | nil => simp [run]
  | cons c s ih =>
    show run (wstep (o, w) c) s = (o ++ (run (wstep ([], w) c) s).1, (run (wstep ([], w) c) s).2)
    unfold wstep
    by_cases h : small c = 0
    · simp only [if_pos h]
      rw [ih (fl o w) [], ih (fl [] w) []]
      unfold fl
      by_cases e : w = []
      · simp [e]
      · simp [e]
    · simp only [if_neg h]
      exact ih o _
/-- a text, a separating byte, a text -/
theorem raw_sep (a b : List UInt8) (c : UInt8) (h : small c = 0) : raw (a ++ c :: b) = raw a ++ raw b := by
  unfold raw
  rw [run_append]
  have e : run (run ([], []) a) (c :: b) = run (raw a, []) b := by
    show run (wstep (run ([], []) a) c) b = _
    unfold wstep
    rw [if_pos h]
    rfl
  rw [e, run_out]
  unfold fl
  by_cases k : (run ([], []) b).2 = [] <;> simp [k, raw, fl]

/-! words are small, and not empty -/
def okB (c : UInt8) : Bool := decide (97 ≤ c.toNat ∧ c.toNat ≤ 122 ∨ 48 ≤ c.toNat ∧ c.toNat ≤ 57)
theorem small_ok (c : UInt8) (h : small c ≠ 0) : okB (small c) = true := by
  unfold small at h ⊢
  unfold okB
  by_cases h1 : 97 ≤ c.toNat ∧ c.toNat ≤ 122 ∨ 48 ≤ c.toNat ∧ c.toNat ≤ 57
  · rw [if_pos h1]; exact decide_eq_true h1
  · rw [if_neg h1] at h ⊢
    by_cases h2 : 65 ≤ c.toNat ∧ c.toNat ≤ 90
    · rw [if_pos h2, UInt8.toNat_ofNat']; exact decide_eq_true (by omega)
    · rw [if_neg h2] at h; exact absurd rfl h
theorem ok_small (c : UInt8) (h : okB c = true) : small c = c := by
  unfold okB at h
  unfold small
  rw [if_pos (of_decide_eq_true h)]
theorem ok_ne (c : UInt8) (h : okB c = true) : c ≠ 0 := by
  intro e; subst e; simp [okB] at h
theorem run_ok (s : List UInt8) : ∀ p : St, (∀ w ∈ p.1, w ≠ [] ∧ ∀ c ∈ w, okB c = true) → (∀ c ∈ p.2, okB c = true) → (∀ w ∈ (run p s).1, w ≠ [] ∧ ∀ c ∈ w, okB c = true) ∧ ∀ c ∈ (run p s).2, okB c = true := by
  induction s with
  | nil => intro p h1 h2; exact ⟨h1, h2⟩
  | cons c s ih =>
    intro p h1 h2
    refine ih (wstep p c) ?_ ?_
    · unfold wstep
      by_cases h : small c = 0
      · rw [if_pos h]
        unfold fl
        intro w hw
        by_cases e : p.2 = []
        · rw [if_pos e] at hw; exact h1 w hw
        · rw [if_neg e] at hw
          rcases List.mem_append.1 hw with q | q
          · exact h1 w q
          · rw [List.mem_singleton.1 q]; exact ⟨e, h2⟩
      · rw [if_neg h]; exact h1
    · unfold wstep
      by_cases h : small c = 0
      · rw [if_pos h]; intro x hx; simp at hx
      · rw [if_neg h]
        intro x hx
        rcases List.mem_append.1 hx with q | q
        · exact h2 x q
        · rw [List.mem_singleton.1 q]; exact small_ok c h
theorem raw_ok (s : List UInt8) : ∀ w ∈ raw s, w ≠ [] ∧ ∀ c ∈ w, okB c = true := by
  obtain ⟨h1, h2⟩ := run_ok s ([], []) (by simp) (by simp)
  unfold raw fl
  by_cases e : (run ([], []) s).2 = []
  · rw [if_pos e]; exact h1
  · rw [if_neg e]
    intro w hw
    rcases List.mem_append.1 hw with q | q
    · exact h1 w q
    · rw [List.mem_singleton.1 q]; exact ⟨e, h2⟩
theorem run_word (o : List (List UInt8)) : ∀ (s w : List UInt8), (∀ c ∈ s, okB c = true) → run (o, w) s = (o, w ++ s)
  | [], w, _ => by simp [run]
  | c :: s, w, h => by
    have e := ok_small c (h c (by simp))
    show run (wstep (o, w) c) s = _
    unfold wstep
    rw [if_neg (by rw [e]; exact ok_ne c (h c (by simp))), e]
    have := run_word o s (w ++ [c]) (fun x hx => h x (by simp [hx]))
    simpa using this
theorem raw_word (s : List UInt8) (h0 : s ≠ []) (h : ∀ c ∈ s, okB c = true) : raw s = [s] := by
  unfold raw
  rw [run_word [] s [] h]
  simp [fl, h0]
theorem words_word (s : List UInt8) (h : s ∈ words s) : words s = [s] := by
  obtain ⟨h1, h2⟩ := raw_ok s s ((mem_names _ _).1 h)
  unfold words
  rw [raw_word s h1 h2]
  rfl
theorem words_of (s w : List UInt8) (h : w ∈ words s) : words w = [w] := by
  obtain ⟨h1, h2⟩ := raw_ok s w ((mem_names _ _).1 h)
  unfold words
  rw [raw_word w h1 h2]
  rfl
theorem words_ne (s w : List UInt8) (h : w ∈ words s) : w ≠ [] := (raw_ok s w ((mem_names _ _).1 h)).1
/-! the other case -/
def flip (c : UInt8) : UInt8 := if 97 ≤ c.toNat ∧ c.toNat ≤ 122 then UInt8.ofNat (c.toNat - 32) else if 65 ≤ c.toNat ∧ c.toNat ≤ 90 then UInt8.ofNat (c.toNat + 32) else c
theorem small_flip (c : UInt8) : small (flip c) = small c := by
  have hc := c.toNat_lt
  unfold flip
  by_cases h1 : 97 ≤ c.toNat ∧ c.toNat ≤ 122
  · rw [if_pos h1]
    have e : (UInt8.ofNat (c.toNat - 32)).toNat = c.toNat - 32 := by rw [UInt8.toNat_ofNat']; omega
    unfold small
    rw [e, if_neg (by omega), if_pos (by omega), if_pos (by omega)]
    apply UInt8.toNat_inj.1
    rw [UInt8.toNat_ofNat']; omega
  · rw [if_neg h1]
    by_cases h2 : 65 ≤ c.toNat ∧ c.toNat ≤ 90
    · rw [if_pos h2]
      have e : (UInt8.ofNat (c.toNat + 32)).toNat = c.toNat + 32 := by rw [UInt8.toNat_ofNat']; omega
      unfold small
      rw [e, if_pos (by omega), if_neg (by omega), if_pos (by omega)]
    · rw [if_neg h2]
theorem run_flip (s : List UInt8) : ∀ p : St, run p (s.map flip) = run p s := by
  induction s with
  | nil => intro p; rfl
  | cons c s ih =>
    intro p
    show run (wstep p (flip c)) (s.map flip) = run (wstep p c) s
    rw [ih]
    unfold wstep
    rw [small_flip]
theorem words_flip (s : List UInt8) : words (s.map flip) = words s := by unfold words raw; rw [run_flip]
theorem words_sep (a b : List UInt8) (c : UInt8) (h : small c = 0) : words (a ++ c :: b) = names (words a ++ words b) := by
  unfold words
  rw [raw_sep a b c h]
  exact names_ext fun x => by simp only [List.mem_append, mem_names]
theorem words_comm (a b : List UInt8) (c : UInt8) (h : small c = 0) : words (a ++ c :: b) = words (b ++ c :: a) := by
  unfold words
  rw [raw_sep a b c h, raw_sep b a c h]
  exact names_ext fun x => by simp only [List.mem_append]; constructor <;> (rintro (q | q) <;> simp [q])
/-- how many words of the second text the first one has -/
def score (s q : List UInt8) : Nat := ((words q).filter fun w => (words s).contains w).length
theorem filter_comm_len (a b : List (List UInt8)) (ha : Inc a) (hb : Inc b) : (b.filter fun w => a.contains w).length = (a.filter fun w => b.contains w).length := by
  have : (b.filter fun w => a.contains w) = (a.filter fun w => b.contains w) :=
    inc_ext _ _ (hb.filter _) (ha.filter _) fun x => by simp [List.mem_filter, and_comm]
  rw [this]
theorem score_comm (s q : List UInt8) : score s q = score q s := filter_comm_len _ _ (inc_names _) (inc_names _)
theorem score_self (s : List UInt8) : score s s = (words s).length := by
  unfold score
  rw [List.filter_eq_self.2 (fun a ha => by simpa using ha)]
end Sr
end Go.Proofs.YtfdcbmmafhjlfaaGreat
