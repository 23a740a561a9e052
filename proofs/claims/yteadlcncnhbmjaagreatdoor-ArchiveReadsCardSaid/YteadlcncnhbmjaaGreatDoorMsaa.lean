/- The text Aq. -/
set_option linter.unusedSimpArgs false
set_option maxHeartbeats 16000000
set_option maxRecDepth 100000
set_option linter.unusedVariables false
namespace Ar
def BI (c : UInt8) : Bool := decide (32 ≤ c.toNat ∧ c.toNat ≤ 126 ∧ c.toNat ≠ 34 ∧ c.toNat ≠ 92)
def hexd (n : Nat) : UInt8 := UInt8.ofNat (if n < 10 then 48 + n else 87 + n)
def esc (c : UInt8) : List UInt8 :=
 if c.toNat = 34 ∨ c.toNat = 92 then [92, c] else if c.toNat = 10 then [92, 110] else if BI c then [c] else [92, 120, hexd (c.toNat / 16), hexd (c.toNat % 16)]
def quote (s : List UInt8) : List UInt8 := 34 :: (s.flatMap esc ++ [34])
def digv (c : UInt8) : Option Nat := if 48 ≤ c.toNat ∧ c.toNat ≤ 57 then some (c.toNat - 48) else if 97 ≤ c.toNat ∧ c.toNat ≤ 102 then some (c.toNat - 87) else none
def tok : List UInt8 → Option (UInt8 × Nat)
 | [] => none
 | c :: r => if BI c then some (c, 1) else if c.toNat ≠ 92 then none else
  match r with
  | [] => none
  | d :: r2 => if d.toNat = 34 ∨ d.toNat = 92 then some (d, 2) else if d.toNat = 110 then some (10, 2) else if d.toNat ≠ 120 then none else
   match r2 with
   | h :: l :: _ =>
    match digv h, digv l with
    | some a, some b => if (32 ≤ 16 * a + b ∧ 16 * a + b ≤ 126) ∨ 16 * a + b = 10 then none else some (UInt8.ofNat (16 * a + b), 4)
    | _, _ => none
   | _ => none
def unqF : Nat → List UInt8 → Option (List UInt8 × List UInt8)
 | 0, _ => none
 | _ + 1, [] => none
 | n + 1, c :: r => if c.toNat = 34 then some ([], r) else
  match tok (c :: r) with
  | none => none
  | some (b, k) => (unqF n ((c :: r).drop k)).map fun p => (b :: p.1, p.2)
def unq (l : List UInt8) : Option (List UInt8 × List UInt8) := unqF (l.length + 1) l
def At (l : List UInt8) : Option (List UInt8 × List UInt8) := match l with
 | [] => none
 | c :: r => if c.toNat = 34 then unq r else none
theorem Cv {a b : UInt8} (h : a.toNat = b.toNat) : a = b := UInt8.toNat_inj.1 h
theorem plainB_iff {c : UInt8} : BI c = true ↔ 32 ≤ c.toNat ∧ c.toNat ≤ 126 ∧ c.toNat ≠ 34 ∧ c.toNat ≠ 92 := by unfold BI; exact decide_eq_true_iff
theorem Ht {l : List UInt8} {b : UInt8} {k : Nat} (h : tok l = some (b, k)) : 1 ≤ k ∧ k ≤ l.length := by
 unfold tok at h;split at h
 ·cases h
 ·split at h
  ·injection h with h; injection h with h1 h2; subst h2; simp
  ·split at h
   ·cases h
   ·split at h
    ·cases h
    ·split at h
     ·injection h with h; injection h with h1 h2; subst h2; simp
     ·split at h
      ·injection h with h; injection h with h1 h2; subst h2; simp
      ·split at h
       ·cases h
       ·split at h
        ·split at h
         ·split at h
          ·cases h
          ·injection h with h; injection h with h1 h2; subst h2; simp
         ·cases h
        ·cases h
theorem Ha : ∀ (n m : Nat) (l : List UInt8), l.length < n → l.length < m → unqF n l = unqF m l
 | 0, _, _, h, _ => by omega
 | _ + 1, 0, _, _, h => by omega
 | n + 1, m + 1, [], _, _ => rfl
 | n + 1, m + 1, c :: r, h1, h2 => by
  unfold unqF;split
  ·rfl
  ·cases ht : tok (c :: r) with
   | none => rfl
   | some p =>
    obtain ⟨b, k⟩ := p;have hk := Ht ht;simp only [List.length_cons] at h1 h2 hk;show (unqF n ((c :: r).drop k)).map _ = (unqF m ((c :: r).drop k)).map _;rw [Ha n m ((c :: r).drop k) (by simp only [List.length_drop, List.length_cons]; omega) (by simp only [List.length_drop, List.length_cons]; omega)]
theorem J4 (r : List UInt8) (c : UInt8) (h : c.toNat = 34) : unq (c :: r) = some ([], r) := by
 unfold unq unqF;rw [if_pos h]
theorem M0 (l : List UInt8) (h0 : ∀ c, l.head? = some c → c.toNat ≠ 34) (h : tok l = none) : unq l = none := by
 unfold unq
 cases l with
 | nil => rfl
 | cons c r =>
  unfold unqF;rw [if_neg (h0 c rfl), h]
theorem I7 (l : List UInt8) (b : UInt8) (k : Nat) (h0 : ∀ c, l.head? = some c → c.toNat ≠ 34) (h : tok l = some (b, k)) : unq l = (unq (l.drop k)).map fun p => (b :: p.1, p.2) := by
 have hk := Ht h;unfold unq
 cases l with
 | nil => cases h
 | cons c r =>
  rw [unqF, if_neg (h0 c rfl), h];show (unqF (c :: r).length _).map _ = _;rw [Ha (c :: r).length (((c :: r).drop k).length + 1) _ (by simp only [List.length_drop]; omega) (by omega)]
theorem KY (n : Nat) (h : n < 16) : digv (hexd n) = some n := by
 unfold hexd digv;by_cases h1 : n < 10
 ·rw [if_pos h1];have e : (UInt8.ofNat (48 + n)).toNat = 48 + n := by rw [UInt8.toNat_ofNat']; omega
  rw [e, if_pos (by omega)]
  congr 1
  omega
 ·rw [if_neg h1];have e : (UInt8.ofNat (87 + n)).toNat = 87 + n := by rw [UInt8.toNat_ofNat']; omega
  rw [e, if_neg (by omega), if_pos (by omega)]
  congr 1
  omega
theorem Fo {c : UInt8} {n : Nat} (h : digv c = some n) : n < 16 ∧ c = hexd n := by
 unfold digv at h;split at h
 ·injection h with h;refine ⟨by omega, Cv ?_⟩;unfold hexd;rw [if_pos (by omega), UInt8.toNat_ofNat'];omega
 ·split at h
  ·injection h with h;refine ⟨by omega, Cv ?_⟩;unfold hexd;rw [if_neg (by omega), UInt8.toNat_ofNat'];omega
  ·cases h
theorem CG (c : UInt8) (r : List UInt8) : tok (c :: r) = if BI c then some (c, 1) else if c.toNat ≠ 92 then none else
  match r with
  | [] => none
  | d :: r2 => if d.toNat = 34 ∨ d.toNat = 92 then some (d, 2) else if d.toNat = 110 then some (10, 2) else if d.toNat ≠ 120 then none else
   match r2 with
   | h :: l :: _ =>
    match digv h, digv l with
    | some a, some b => if (32 ≤ 16 * a + b ∧ 16 * a + b ≤ 126) ∨ 16 * a + b = 10 then none else some (UInt8.ofNat (16 * a + b), 4)
    | _, _ => none
   | _ => none := rfl
theorem QO (c : UInt8) (r : List UInt8) : tok (esc c ++ r) = some (c, (esc c).length) := by
 have hc := c.toNat_lt;unfold esc;split
 ·rename_i h;show tok (92 :: c :: r) = _;rw [CG];rw [if_neg (by decide), if_neg (by decide)];simp only;rw [if_pos h];rfl
 ·split
  ·rename_i h1 h;show tok (92 :: 110 :: r) = _;rw [CG];rw [if_neg (by decide), if_neg (by decide)];simp only;rw [if_neg (by decide), if_pos (by decide)];have : c = 10 := Cv h;subst this;rfl
  ·split
   ·rename_i h;show tok (c :: r) = _;rw [CG];rw [if_pos h];rfl
   ·rename_i h1 h2 h3;show tok (92 :: 120 :: hexd (c.toNat / 16) :: hexd (c.toNat % 16) :: r) = _;rw [CG];rw [if_neg (by decide), if_neg (by decide)];simp only;rw [if_neg (by decide), if_neg (by decide), if_neg (by decide), KY _ (by omega), KY _ (by omega)];have e : 16 * (c.toNat / 16) + c.toNat % 16 = c.toNat := by omega
    simp only [e];rw [if_neg]
    ·congr 2
     exact Cv (by rw [UInt8.toNat_ofNat']; omega)
    ·rintro (⟨h4, h5⟩ | h4)
     ·exact h3 (plainB_iff.2 ⟨h4, h5, fun e => h1 (.inl e), fun e => h1 (.inr e)⟩)
     ·exact h2 h4
theorem Rh {l : List UInt8} {b : UInt8} {k : Nat} (h : tok l = some (b, k)) : l = esc b ++ l.drop k := by
 unfold tok at h;split at h
 ·cases h
 ·rename_i c r;split at h
  ·rename_i hp;injection h with h; injection h with h1 h2; subst h1 h2;have hp' := plainB_iff.1 hp;unfold esc;rw [if_neg (by omega), if_neg (by omega), if_pos hp];rfl
  ·split at h
   ·cases h
   ·rename_i h92;have hc : c = 92 := Cv (by have : (92 : UInt8).toNat = 92 := rfl; omega);subst hc;split at h
    ·cases h
    ·rename_i d r2;split at h
     ·rename_i hd;injection h with h; injection h with h1 h2; subst h1 h2;unfold esc;rw [if_pos hd];rfl
     ·split at h
      ·rename_i hd;injection h with h; injection h with h1 h2; subst h1 h2;have : d = 110 := Cv hd;subst this;rfl
      ·split at h
       ·cases h
       ·rename_i hd;have : d = 120 := Cv (by simpa using hd);subst this;split at h
        ·rename_i x y q;split at h
         ·rename_i a e2 ha hb;split at h
          ·cases h
          ·rename_i hv;injection h with h; injection h with h1 h2; subst h1 h2;obtain ⟨ha1, rfl⟩ := Fo ha;obtain ⟨hb1, rfl⟩ := Fo hb;have e : (UInt8.ofNat (16 * a + e2)).toNat = 16 * a + e2 := by rw [UInt8.toNat_ofNat']; omega
           unfold esc;rw [e, if_neg (by omega), if_neg (by omega), if_neg]
           ·rw [show (16 * a + e2) / 16 = a from by omega, show (16 * a + e2) % 16 = e2 from by omega];rfl
           ·rw [plainB_iff, e];omega
         ·cases h
        ·cases h
theorem Qp (c : UInt8) (r : List UInt8) : ∀ d, (esc c ++ r).head? = some d → d.toNat ≠ 34 := by
 intro d hd;unfold esc at hd;split at hd
 ·simp at hd; subst hd; decide
 ·split at hd
  ·simp at hd; subst hd; decide
  ·split at hd
   ·rename_i h1 _ _;simp at hd; subst hd;exact fun e => h1 (.inl e)
   ·simp at hd; subst hd; decide
theorem NT (s more : List UInt8) : unq (s.flatMap esc ++ 34 :: more) = some (s, more) := by
 induction s with
 | nil => exact J4 more 34 rfl
 | cons c s ih =>
  rw [List.flatMap_cons, List.append_assoc, I7 _ c _ (Qp c _) (QO c _), List.drop_left, ih];rfl
theorem BJ (s more : List UInt8) : At (quote s ++ more) = some (s, more) := by
 unfold quote At;simp only [List.cons_append, List.append_assoc, List.nil_append];rw [if_pos (show (34 : UInt8).toNat = 34 from rfl)];exact NT s more
theorem QF : ∀ (n : Nat) (l : List UInt8), l.length ≤ n → ∀ o q, unq l = some (o, q) → l = o.flatMap esc ++ 34 :: q := by
 intro n
 induction n with
 | zero =>
  intro l h o q hu
  cases l with
  | nil => cases hu
  | cons c r => simp at h
 | succ n ih =>
  intro l h o q hu
  cases l with
  | nil => cases hu
  | cons c r =>
   by_cases hc : c.toNat = 34
   ·rw [J4 r c hc] at hu;injection hu with hu; injection hu with h1 h2; subst h1 h2;have : c = 34 := Cv hc;subst this;rfl
   ·cases ht : tok (c :: r) with
    | none =>
     rw [M0 (c :: r) (by intro d hd; injection hd with hd; subst hd; exact hc) ht] at hu;cases hu
    | some p =>
     obtain ⟨b, k⟩ := p;rw [I7 (c :: r) b k (by intro d hd; injection hd with hd; subst hd; exact hc) ht] at hu;have hk := Ht ht
     cases hr : unq ((c :: r).drop k) with
     | none => rw [hr] at hu; cases hu
     | some p =>
      obtain ⟨o', q'⟩ := p;rw [hr] at hu;injection hu with hu; injection hu with h1 h2;simp only at h1 h2;subst h1 h2;have h3 := ih ((c :: r).drop k) (by simp only [List.length_drop]; simp only [List.length_cons] at hk h ⊢; omega) o' q' hr;rw [List.flatMap_cons, List.append_assoc, ← h3];exact Rh ht
theorem Bm {l o q : List UInt8} (h : At l = some (o, q)) : l = quote o ++ q := by
 unfold At at h;split at h
 ·cases h
 ·rename_i c r;split at h
  ·rename_i hc;have h1 := QF r.length r (Nat.le_refl _) o q h;have : c = 34 := Cv hc;subst this;unfold quote;simp only [List.cons_append, List.append_assoc, List.nil_append];rw [← h1]
  ·cases h
theorem Iv (n : Nat) (h : n < 16) : 32 ≤ (hexd n).toNat ∧ (hexd n).toNat ≤ 126 := by
 unfold hexd;split <;> (rw [UInt8.toNat_ofNat']; omega)
theorem Ng (c : UInt8) : ∀ d ∈ esc c, 32 ≤ d.toNat ∧ d.toNat ≤ 126 := by
 have hc := c.toNat_lt;intro d hd;unfold esc at hd;split at hd
 ·rename_i h;simp only [List.mem_cons, List.not_mem_nil, or_false] at hd;rcases hd with rfl | rfl
  ·decide
  ·omega
 ·split at hd
  ·simp only [List.mem_cons, List.not_mem_nil, or_false] at hd;rcases hd with rfl | rfl <;> decide
  ·split at hd
   ·rename_i h;simp only [List.mem_cons, List.not_mem_nil, or_false] at hd;subst hd;have := plainB_iff.1 h;omega
   ·simp only [List.mem_cons, List.not_mem_nil, or_false] at hd;rcases hd with rfl | rfl | rfl | rfl
    ·decide
    ·decide
    ·exact Iv _ (by omega)
    ·exact Iv _ (by omega)
theorem Ln (s : List UInt8) : ∀ d ∈ quote s, 32 ≤ d.toNat ∧ d.toNat ≤ 126 := by
 intro d hd;unfold quote at hd;simp only [List.mem_cons, List.mem_append, List.mem_flatMap, List.not_mem_nil, or_false] at hd;rcases hd with rfl | ⟨c, _, h⟩ | rfl
 ·decide
 ·exact Ng c d h
 ·decide
theorem Hv (c : UInt8) : 1 ≤ (esc c).length ∧ (esc c).length ≤ 4 := by
 unfold esc;split
 ·simp
 ·split
  ·simp
  ·split <;> simp
theorem Ic : ∀ s : List UInt8, (s.flatMap esc).length ≤ 4 * s.length
 | [] => by simp
 | c :: s => by
  have := Ic s;have := Hv c;rw [List.flatMap_cons, List.length_append, List.length_cons];omega
theorem Eg (s : List UInt8) : (quote s).length ≤ 4 * s.length + 2 := by
 have := Ic s;unfold quote;rw [List.length_cons, List.length_append, show ([34] : List UInt8).length = 1 from rfl];omega
end Ar
