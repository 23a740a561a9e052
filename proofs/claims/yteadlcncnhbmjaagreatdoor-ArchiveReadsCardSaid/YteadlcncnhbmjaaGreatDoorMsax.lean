/- The text Cxb. -/
import Derived.Test.YteadlcncnhbmjaaGreatDoorMsaw
set_option linter.unusedSimpArgs false
set_option maxHeartbeats 16000000
set_option maxRecDepth 100000
set_option linter.unusedVariables false
namespace Ar
theorem Ho (N : Nat) (hN : N ≤ 100000) : ∀ (m : Nat) (e : List FV) (s : Str) (r : List FV), Bb m e s = some r → s.length ≤ N → (∀ v ∈ e, v.Fine N) → ∀ v ∈ r, v.Fine N
 | 0, e, s, r, h, _, _ => by cases h
 | m + 1, e, s, r, h, hs, he => by
  unfold Bb at h;split at h
  ·injection h with h; subst h; exact he
  ·split at h
   ·cases h
   ·rename_i p hp;split at h
    ·cases h
    ·rename_i q hq;have h1 := Iy (i := p.1) (t := p.2) hp;have h2 := He (v := q.1) (t := q.2) N (by omega) hN hq;have h3 := Hl (v := q.1) (t := q.2) hq;have hset : ∀ v ∈ e.set p.1 q.1, v.Fine N := fun u hu => by
      rcases List.mem_or_eq_of_mem_set hu with hu | rfl
      ·exact he u hu
      ·exact h2
     split at h
     ·injection h with h; subst h; exact hset
     ·split at h
      ·cases h
      ·rename_i r' hr;have h4 := Gc hr;exact Ho N hN m _ r' r h (by omega) hset
theorem L7 {s : Str} {e : List FV} (h : parse s = some e) (hs : s.length ≤ 100000) : ∀ v ∈ e, v.Fine s.length := by
 rw [← Fu] at h;unfold Eb at h;split at h
 ·cases h
 ·rename_i e' he;split at h
  ·injection h with h;subst h;refine Ho s.length hs _ _ _ _ he (Nat.le_refl _) fun v hv => ?_
   unfold zeros at hv;obtain ⟨p, _, rfl⟩ := List.mem_map.1 hv;exact Ew _ _
  ·cases h
theorem Jh {s : Str} {e : List FV} (h : parse s = some e) (hs : s.length ≤ 100000) : ∀ v ∈ e, v.WOk := fun v hv => (L7 h hs v hv).1
end Ar
