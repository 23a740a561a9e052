/- The texts Ap4, Ax0, Ax1 of this proof, one behind the other. -/
import Derived.Lib.IndexMore
import Derived.Test.YteadlcncnhbmjaaGreatDoorMsao
import Derived.Test.YteadlcncnhbmjaaGreatDoorMsaf
import Derived.Test.YteadlcncnhbmjaaGreatDoorMsai
import Derived.Test.YteadlcncnhbmjaaGreatDoorMsac
set_option linter.unusedSimpArgs false
set_option maxHeartbeats 16000000
set_option maxRecDepth 100000
set_option linter.unusedVariables false
namespace Ar
open Go.Lib
theorem Gg {s : Str} (h : (32 : UInt8) ∉ s) : cut s [32] = (s, [], false) := by
  have h1 : index s [32] = -1 := by
    rw [index_one];have hge := indexByte_ge s 32;by_cases e : indexByte s 32 = -1
    · exact e
    · exfalso
      obtain ⟨o, ho⟩ : ∃ o : Nat, indexByte s 32 = o := ⟨(indexByte s 32).toNat, by omega⟩;have h2 := (indexByte_some ho).1;exact h (List.mem_of_getElem? h2)
  unfold cut;rw [h1, if_neg (by decide)]
theorem O9 {l t : Str} (h : (32 : UInt8) ∉ l) : cut (l ++ 32 :: t) [32] = (l, t, true) := by
  have h1 : index (l ++ 32 :: t) [32] = (l.length : Int) := by rw [index_one, H9 l t 32 h]
  unfold cut;rw [h1, if_pos (by omega), Int.toNat_natCast, List.take_left]
  congr 2
  rw [show l ++ 32 :: t = (l ++ [32]) ++ t from by simp];exact List.drop_left' (by simp)
theorem FX {s : Str} (p : List Str × List Str) (h : (32 : UInt8) ∉ s) : astep p s = none := by
  have he : elem s = none := by
    unfold elem;split
    · rename_i c d r
      rw [if_neg (fun e => h (by simp [e]))]
    · rfl
  unfold astep;rw [he]
theorem Gt (c : UInt8) (t : Str) : elem (c :: 32 :: t) = some (c, t) := by
  show (if (32 : UInt8) = 32 then some (c, t) else none) = _;rw [if_pos rfl]
theorem Hn {l t : Str} (p : List Str × List Str) (h : (32 : UInt8) ∉ l) (h1 : l ≠ [61]) (h2 : l ≠ [45]) (h3 : l ≠ [43]) : astep p (l ++ 32 :: t) = none := by
  rcases l with _ | ⟨a, l⟩
  · have he : ∀ c r, elem (32 :: t) = some (c, r) → c = 32 := by
      intro c r hc;rcases t with _ | ⟨d, t⟩
      · cases hc
      · have hc : (if d = 32 then some ((32 : UInt8), t) else none) = some (c, r) := hc
        split at hc
        · injection hc with hc
          injection hc with hc1 hc2;exact hc1.symm
        · cases hc
    unfold astep;rw [List.nil_append]
    cases hee : elem (32 :: t) with
    | none => rfl
    | some q =>
      obtain ⟨c, r⟩ := q;have := he c r hee;subst this;simp only;rw [if_neg (by decide), if_neg (by decide), if_neg (by decide)]
  · rcases l with _ | ⟨b, l⟩
    · have he : elem ([a] ++ 32 :: t) = some (a, t) := Gt a t
      unfold astep;rw [he];simp only;rw [if_neg (fun e => h1 (by rw [e])), if_neg (fun e => h2 (by rw [e])), if_neg (fun e => h3 (by rw [e]))]
    · have hb : b ≠ 32 := fun e => h (by simp [e])
      have he : elem ((a :: b :: l) ++ 32 :: t) = none := by
        show (if b = 32 then some (a, l ++ 32 :: t) else none) = none;rw [if_neg hb]
      unfold astep;rw [he]
theorem Lv (x o : List Str) (t : Str) : astep (x, o) (61 :: 32 :: t) = (match pnum t with
      | some n => if 1 ≤ n ∧ n ≤ x.length then some (x.drop n.toNat, o ++ x.take n.toNat) else none
      | none => none) := by
  unfold astep;rw [Gt];rfl
theorem DY (x o : List Str) (t : Str) : astep (x, o) (45 :: 32 :: t) = (match x with
      | l :: rest => if l = t then some (rest, o) else none
      | [] => none) := by
  unfold astep;rw [Gt];rfl
theorem ID (x o : List Str) (t : Str) : astep (x, o) (43 :: 32 :: t) = if (10 : UInt8) ∈ t then none else some (x, o ++ [t]) := by
  unfold astep;rw [Gt];rfl
theorem Hm (s : Str) : (32 : UInt8) ∉ s ∨ ∃ l t, s = l ++ 32 :: t ∧ (32 : UInt8) ∉ l := by
  by_cases h : (32 : UInt8) ∈ s
  · obtain ⟨l, t, e, hl⟩ := List.eq_append_cons_of_mem h
    exact .inr ⟨l, t, e, hl⟩
  · exact .inl h
theorem PA {x o l o2 : List Str} {s : Str} (h : astep (x, o) s = some (l, o2)) : o2.length + l.length ≤ o.length + x.length + 1 ∧ (∀ y ∈ l, y ∈ x) ∧ ∀ y ∈ o2, y ∈ o ∨ y ∈ x ∨ y.length ≤ s.length := by
  rcases Hm s with hb | ⟨a, t, rfl, ha⟩
  · rw [FX _ hb] at h; cases h
  · by_cases h1 : a = [61]
    · subst h1
      rw [show [61] ++ 32 :: t = 61 :: 32 :: t from rfl, Lv] at h;split at h
      · split at h
        · rename_i n hn hc
          injection h with h;injection h with e1 e2;subst e1 e2;refine ⟨by rw [List.length_append, List.length_take, List.length_drop]; omega, fun y hy => List.mem_of_mem_drop hy, fun y hy => ?_⟩;rcases List.mem_append.1 hy with hy | hy
          · exact .inl hy
          · exact .inr (.inl (List.mem_of_mem_take hy))
        · cases h
      · cases h
    · by_cases h2 : a = [45]
      · subst h2
        rw [show [45] ++ 32 :: t = 45 :: 32 :: t from rfl, DY] at h;split at h
        · split at h
          · injection h with h
            injection h with e1 e2;subst e1 e2;exact ⟨by simp; omega, fun y hy => by simp [hy], fun y hy => .inl hy⟩
          · cases h
        · cases h
      · by_cases h3 : a = [43]
        · subst h3
          rw [show [43] ++ 32 :: t = 43 :: 32 :: t from rfl, ID] at h;split at h
          · cases h
          · injection h with h
            injection h with e1 e2;subst e1 e2;refine ⟨by rw [List.length_append, List.length_singleton]; omega, fun y hy => hy, fun y hy => ?_⟩;rcases List.mem_append.1 hy with hy | hy
            · exact .inl hy
            · rw [List.mem_singleton.1 hy]
              exact .inr (.inr (by simp; omega))
        · rw [Hn _ ha h1 h2 h3] at h; cases h
theorem M7 : ∀ (d : List Str) (x o l o2 : List Str), aall (x, o) d = some (l, o2) → o2.length + l.length ≤ o.length + x.length + d.length ∧ (∀ y ∈ l, y ∈ x) ∧ ∀ y ∈ o2, y ∈ o ∨ y ∈ x ∨ ∃ s ∈ d, y.length ≤ s.length
  | [], x, o, l, o2, h => by
    injection h with h;injection h with e1 e2;subst e1 e2;exact ⟨by simp, fun y hy => hy, fun y hy => .inl hy⟩
  | s :: d, x, o, l, o2, h => by
    unfold aall at h
    cases hs : astep (x, o) s with
    | none => rw [hs] at h; cases h
    | some p =>
      rw [hs] at h;obtain ⟨px, po⟩ := p;obtain ⟨h1, h2, h3⟩ := PA hs;obtain ⟨g1, g2, g3⟩ := M7 d px po l o2 h;refine ⟨by simp only [List.length_cons]; omega, fun y hy => h2 y (g2 y hy), fun y hy => ?_⟩;rcases g3 y hy with hy | hy | ⟨q, hq, hy⟩
      · rcases h3 y hy with hy | hy | hy
        · exact .inl hy
        · exact .inr (.inl hy)
        · exact .inr (.inr ⟨s, by simp, hy⟩)
      · exact .inr (.inl (h2 y hy))
      · exact .inr (.inr ⟨q, by simp [hq], hy⟩)
theorem Jq {d : List Str} {k : Nat} {s : Str} (h : d[k]? = some s) {p q : List Str × List Str} (hp : aall p (d.take k) = some q) : aall p (d.take (k + 1)) = astep q s := by
  rw [Go.Proofs.YteadlcncnhbmjaaGreatDoor.BF h, KH, hp];show (match astep q s with | some r => aall r [] | none => none) = _;cases astep q s <;> rfl
theorem LT {d : List Str} {k : Nat} {p : List Str × List Str} (h : aall p (d.take k) = none) : aall p d = none := by
  rw [← List.take_append_drop k d, KH, h];rfl
theorem GK : ∀ L : List Str, join [10] L = Dm L
  | [] => rfl
  | [l] => rfl
  | l :: m :: r => by
    have ih := GK (m :: r);show l ++ [10] ++ join [10] (m :: r) = l ++ 10 :: Dm (m :: r);rw [ih, List.append_assoc];rfl
end Ar
namespace Ar
open Go.Lib
theorem K9 {a : Str} {d : List Str} {k : Nat} {s : Str} {p : List Str × List Str} (hk : d[k]? = some s) (h : aall (lines a, []) (d.take k) = some p) (hs : astep p s = none) : apply a d = none := by
  have h1 : aall (lines a, []) d = none := LT (k := k + 1) (by rw [Jq hk h, hs]);unfold apply;rw [h1]
theorem NU {a : Str} {d : List Str} {L O : List Str} (h : aall (lines a, []) d = some (L, O)) : apply a d = if L = [] ∧ O ≠ [] then some (join [10] O) else none := by
  unfold apply;rw [h, GK]
theorem QZ {t : Str} (h : ∀ v, atoiAll t ≠ .ok v) : pnum t = none := by
  unfold pnum;split
  · rename_i v hv
    exact absurd hv (h v)
  · rfl
theorem Rp {t : Str} {v : Int} (h : atoiAll t = .ok v) (hne : itoa v ≠ t) : pnum t = none := by
  unfold pnum;rw [h];simp only;rw [if_neg hne]
theorem Pg {t : Str} {v : Int} (h : atoiAll t = .ok v) (he : itoa v = t) : pnum t = some v := by
  unfold pnum;rw [h];simp only;rw [if_pos he]
theorem Pq (t : Str) (c : UInt8) : decide (0 ≤ indexByte t c) = decide (c ∈ t) := by
  have hge := indexByte_ge t c;by_cases h : c ∈ t
  · have h1 : indexByte t c ≠ -1 := fun e => by
      obtain ⟨k, hk⟩ := List.mem_iff_getElem?.1 h;exact indexByte_none e k hk
    rw [decide_eq_true h, decide_eq_true (by omega)]
  · have h1 : indexByte t c = -1 := by
      by_cases e : indexByte t c = -1
      · exact e
      · exfalso
        obtain ⟨o, ho⟩ : ∃ o : Nat, indexByte t c = o := ⟨(indexByte t c).toNat, by omega⟩;exact h (List.mem_of_getElem? (indexByte_some ho).1)
    rw [decide_eq_false h, h1];rfl
end Ar
namespace Ar
def negS (n : Int) (c : UInt8) : Option Int :=
 if (c.toNat : Int) - 48 < 0 ∨ 9 < (c.toNat : Int) - 48 ∨ n < -922337203685477580 ∨ n = -922337203685477580 ∧ 8 < (c.toNat : Int) - 48 then none else some (10 * n - ((c.toNat : Int) - 48))
def negL : Int → Str → Option Int
 | n, [] => some n
 | n, c :: s => (negS n c).bind fun m => negL m s
theorem IL (a b : Str) : ∀ n, negL n (a ++ b) = (negL n a).bind fun m => negL m b := by
 induction a with
 | nil => intro n; rfl
 | cons c a ih =>
  intro n;show (negS n c).bind (fun m => negL m (a ++ b)) = ((negS n c).bind fun m => negL m a).bind _
  cases negS n c with
  | none => rfl
  | some m => exact ih m
theorem Gb {n m : Int} {c : UInt8} (h : negS n c = some m) (h0 : n ≤ 0) : -9223372036854775808 ≤ m ∧ m ≤ 0 := by
 unfold negS at h;split at h
 ·cases h
 ·injection h with h;omega
theorem I3 : ∀ (s : Str) (n m : Int), negL n s = some m → -9223372036854775808 ≤ n → n ≤ 0 → -9223372036854775808 ≤ m ∧ m ≤ 0
 | [], n, m, h, h1, h2 => by injection h with h; omega
 | c :: s, n, m, h, h1, h2 => by
  unfold negL at h
  cases hc : negS n c with
  | none => rw [hc] at h; cases h
  | some k =>
   rw [hc] at h;have := Gb hc h2;exact I3 s k m h this.1 this.2
theorem In (n : Int) (d : Nat) (hd : d < 10) (h : n > -922337203685477580 ∨ n = -922337203685477580 ∧ d ≤ 8) : negS n (UInt8.ofNat (48 + d)) = some (10 * n - d) := by
 unfold negS;rw [(EG d hd).2, if_neg (by omega)]
 congr 1
 omega
theorem JJ : ∀ (k n : Nat), n ≤ k → n ≤ 9223372036854775808 → negL 0 (digs n) = some (-(n : Int)) := by
 intro k
 induction k with
 | zero =>
  intro n h _;have h0 : n = 0 := by omega
  subst h0;rw [BN 0 (by omega)];show (negS 0 (UInt8.ofNat (48 + 0))).bind (fun m => negL m []) = _;rw [In 0 0 (by omega) (by omega)];rfl
 | succ k ih =>
  intro n h hb;by_cases h10 : n < 10
  ·rw [BN n h10];show (negS 0 (UInt8.ofNat (48 + n))).bind (fun m => negL m []) = _;rw [In 0 n h10 (by omega)];show some (10 * 0 - (n : Int)) = _
   congr 1
   omega
  ·rw [CH n (by omega), IL, ih (n / 10) (by omega) (by omega)];show (negS (-((n / 10 : Nat) : Int)) (UInt8.ofNat (48 + n % 10))).bind (fun m => negL m []) = _;rw [In _ (n % 10) (by omega) (by omega)];show some _ = some _
   congr 1
   omega
def Bc (s : Str) : Nat := if s.head? = some 45 then 1 else 0
def rint (s : Str) : Option Int :=
 if s.length = Bc s ∨ Bc s + 19 < s.length then none else
 match negL 0 (s.drop (Bc s)) with
 | none => none
 | some n => if Bc s = 0 then (if n = -9223372036854775808 then none else if itoa (-n) = s then some (-n) else none) else if itoa n = s then some n else none
theorem L9 {s : Str} {n : Int} (h : Go.Lib.atoiAll s = .ok n) : inInt n := by
 unfold Go.Lib.atoiAll at h;split at h
 ·cases h
 ·simp only at h;split at h
  ·cases h
  ·cases h
  ·split at h
   ·cases h
   ·split at h
    ·cases h
    ·injection h with h;unfold inInt;split at h <;> omega
theorem Ei {s : Str} {n : Int} (h : rint s = some n) : s = itoa n ∧ inInt n := by
 unfold rint at h;split at h
 ·cases h
 ·split at h
  ·cases h
  ·rename_i m hm;have hr := I3 _ _ _ hm (by omega) (by omega);split at h
   ·split at h
    ·cases h
    ·split at h
     ·rename_i he;injection h with h;rw [← h];exact ⟨he.symm, by unfold inInt; omega⟩
     ·cases h
   ·split at h
    ·rename_i he;injection h with h;rw [← h];exact ⟨he.symm, by unfold inInt; omega⟩
    ·cases h
theorem MW (n : Nat) (h : n ≤ 9223372036854775808) : (digs n).length ≤ 19 := Go.Proofs.YteadlcncnhbmjaaGreatDoor.DP 18 n (by omega)
theorem FC (n : Int) (h : inInt n) : rint (itoa n) = some n := by
 unfold inInt at h;by_cases hn : n < 0
 ·have e : itoa n = 45 :: digs n.natAbs := by unfold itoa; rw [if_pos hn]
  have hm : Bc (45 :: digs n.natAbs) = 1 := rfl;have h19 := MW n.natAbs (by omega);have hne : (digs n.natAbs).length ≠ 0 := fun h0 => Du _ (List.eq_nil_of_length_eq_zero h0)
  unfold rint;rw [e, hm, if_neg (by simp only [List.length_cons]; omega)];show (match negL 0 (digs n.natAbs) with | none => none | some m => _) = _;rw [JJ _ n.natAbs (Nat.le_refl _) (by omega)];simp only;rw [if_neg (by omega), show -((n.natAbs : Nat) : Int) = n from by omega, e, if_pos rfl]
 ·have e : itoa n = digs n.natAbs := by unfold itoa; rw [if_neg hn]
  obtain ⟨c, r, ed, hc⟩ := Jk n.natAbs;have hd := of_decide_eq_true hc;have hm : Bc (digs n.natAbs) = 0 := by
   rw [ed];unfold Bc;rw [if_neg];intro h45;injection h45 with h45;rw [h45] at hd;exact absurd hd (by decide)
  have h19 := MW n.natAbs (by omega);have hne : (digs n.natAbs).length ≠ 0 := fun h0 => Du _ (List.eq_nil_of_length_eq_zero h0)
  unfold rint;rw [e, hm, if_neg (by omega), List.drop_zero, JJ _ n.natAbs (Nat.le_refl _) (by omega)];simp only;rw [if_pos trivial, if_neg (by omega), show -(-((n.natAbs : Nat) : Int)) = n from by omega, e, if_pos rfl]
end Ar
namespace Ar
def xnum (s : Str) : Option (Int × Str) := (rint (s.takeWhile numch)).map fun n => (n, s.dropWhile numch)
def xsign (c : UInt8) : Str → Option Str
 | [] => none
 | d :: r => if d = c then some r else none
def AD {α : Type} (one : Str → Option (α × Str)) : Nat → Str → Option (List α × Str)
 | 0, _ => none
 | n + 1, s => (one s).bind fun p => match xsign 44 p.2 with
  | none => some ([p.1], p.2)
  | some r => (AD one n r).map fun q => (p.1 :: q.1, q.2)
def xusr (s : Str) : Option ((Str × Int) × Str) := (At s).bind fun t => (xsign 58 t.2).bind fun r => (xnum r).map fun n => ((t.1, n.1), n.2)
def xknd (s : Str) : Option ((Int × Int) × Str) := (xnum s).bind fun t => (xsign 58 t.2).bind fun r => (xnum r).map fun n => ((t.1, n.1), n.2)
def xlist {α : Type} (one : Str → Option (α × Str)) (s : Str) : Option (List α × Str) := AD one (s.length + 1) s
def DE : FK → Str → Option (FV × Str)
 | .num, s => (xnum s).map fun p => (.num p.1, p.2)
 | .txt, s => (At s).map fun p => (.txt p.1, p.2)
 | .flg, s => some (.flg true, s)
 | .nums, s => (xlist xnum s).map fun p => (.nums p.1, p.2)
 | .txts, s => (xlist At s).map fun p => (.txts p.1, p.2)
 | .usrs, s => (xlist xusr s).map fun p => (.usrs p.1, p.2)
 | .knds, s => (xlist xknd s).map fun p => (.knds p.1, p.2)
def nmch (c : UInt8) : Bool := !(c == 61 || c == 32)
def xname (s : Str) : Option (Nat × Str) := (NK.findIdx? (fun p => decide (p.1 = s.takeWhile nmch))).map fun i => (i, s.dropWhile nmch)
def Bs (i : Nat) : FK := ((NK[i]?).map (·.2)).getD .num
def Bq (i : Nat) (s : Str) : Option (FV × Str) := if isFlg (Bs i) then DE (Bs i) s else (xsign 61 s).bind fun r => DE (Bs i) r
def Bb : Nat → List FV → Str → Option (List FV)
 | 0, _, _ => none
 | n + 1, e, s => if s = [] then some e else match xname s with
  | none => none
  | some p => match Bq p.1 p.2 with
   | none => none
   | some q => if q.2 = [] then some (e.set p.1 q.1) else match xsign 32 q.2 with
    | none => none
    | some r => Bb n (e.set p.1 q.1) r
def Eb (s : Str) : Option (List FV) := match Bb (s.length + 1) (zeros NK) s with
 | none => none
 | some e => if line e = s then some e else none
theorem EJ (n : Int) (t : Str) (h : inInt n) (ht : Stop numch t) : xnum (itoa n ++ t) = some (n, t) := by
 have hs := Dj (Ga n) ht;unfold xnum;rw [hs.1, hs.2, FC n h];rfl
theorem Ct (c : UInt8) (t : Str) : xsign c (c :: t) = some t := by
 show (if c = c then some t else none) = _;rw [if_pos rfl]
theorem Qv {c : UInt8} {t : Str} (h : ∀ d r, t = d :: r → d ≠ c) : xsign c t = none := by
 cases t with
 | nil => rfl
 | cons d r =>
  show (if d = c then some r else none) = none;rw [if_neg (h d r rfl)]
theorem Em {α : Type} (one : Str → Option (α × Str)) (tx : α → Str) (t : Str) (ht : Stop (fun c => c == 44 || numch c) t) :
  ∀ (l : List α) (n : Nat), l ≠ [] → l.length ≤ n → (∀ x ∈ l, ∀ u, Stop numch u → one (tx x ++ u) = some (x, u)) → AD one n (join [44] (l.map tx) ++ t) = some (l, t)
 | [], _, h, _, _ => absurd rfl h
 | _ :: _, 0, _, h, _ => by simp at h
 | [x], n + 1, _, _, h => by
  have h1 := h x (by simp) t (fun c r e => by have := ht c r e; simp at this; exact this.2);have h2 : xsign 44 t = none := Qv (fun d r e he => by have := ht d r e; simp at this; exact this.1 he);show AD one (n + 1) (tx x ++ t) = _;unfold AD;simp only [h1, Option.bind_some, h2]
 | x :: y :: l, n + 1, _, hl, h => by
  have e : join [44] ((x :: y :: l).map tx) ++ t = tx x ++ (44 :: (join [44] ((y :: l).map tx) ++ t)) := by
   rw [List.map_cons, DF _ _ _ (by simp)];simp
  have hs : Stop numch (44 :: (join [44] ((y :: l).map tx) ++ t)) := by intro c r h; injection h with h1 h2; subst h1; decide
  have h1 := h x (by simp) _ hs;have ih := Em one tx t ht (y :: l) n (by simp) (by simp at hl ⊢; omega) (fun z hz => h z (List.mem_cons_of_mem _ hz));rw [e];unfold AD;simp only [h1, Option.bind_some, Ct, ih, Option.map_some]
theorem QV (p : Str × Int) (t : Str) (h : inInt p.2) (ht : Stop numch t) : xusr (usrT p ++ t) = some (p, t) := by
 unfold xusr usrT;have e : quote p.1 ++ 58 :: itoa p.2 ++ t = quote p.1 ++ (58 :: (itoa p.2 ++ t)) := by simp
 rw [e, BJ];simp only [Option.bind_some, Ct, EJ _ _ h ht, Option.map_some]
theorem Ry (p : Int × Int) (t : Str) (h : inInt p.1 ∧ inInt p.2) (ht : Stop numch t) : xknd (kndT p ++ t) = some (p, t) := by
 unfold xknd kndT;have e : itoa p.1 ++ 58 :: itoa p.2 ++ t = itoa p.1 ++ (58 :: (itoa p.2 ++ t)) := by simp
 have hs : Stop numch (58 :: (itoa p.2 ++ t)) := by intro c r h; injection h with h1 h2; subst h1; decide
 rw [e, EJ _ _ h.1 hs];simp only [Option.bind_some, Ct, EJ _ _ h.2 ht, Option.map_some]
theorem Nf (v : FV) (t : Str) (hv : v.Ok) (hz : v.text ≠ []) (ht : Blank t) : DE v.kind (v.text ++ t) = some (v, t) := by
 cases v with
 | num n =>
  have hn : n ≠ 0 := by intro e; subst e; exact hz rfl
  have e : FV.text (.num n) = itoa n := if_neg hn;rw [e];show (xnum _).map _ = _;rw [EJ n t hv ht.num];rfl
 | txt s =>
  have hn : s ≠ [] := by intro e; subst e; exact hz rfl
  have e : FV.text (.txt s) = quote s := if_neg hn;rw [e];show (At _).map _ = _;rw [BJ];rfl
 | flg b => exact absurd rfl hz
 | nums l =>
  have hn : l ≠ [] := by intro e; subst e; exact hz rfl
  have := Ci itoa DX l;show (AD xnum ((join [44] (l.map itoa) ++ t).length + 1) (join [44] (l.map itoa) ++ t)).map _ = _;rw [Em xnum itoa t ht.stop l _ hn (by rw [List.length_append]; omega) (fun x hx u hu => EJ x u (hv x hx) hu)];rfl
 | txts l =>
  have hn : l ≠ [] := by intro e; subst e; exact hz rfl
  have := Ci quote Fj l;show (AD At ((join [44] (l.map quote) ++ t).length + 1) (join [44] (l.map quote) ++ t)).map _ = _;rw [Em At quote t ht.stop l _ hn (by rw [List.length_append]; omega) (fun x _ u _ => BJ x u)];rfl
 | usrs l =>
  have hn : l ≠ [] := by intro e; subst e; exact hz rfl
  have := Ci usrT J5 l;show (AD xusr ((join [44] (l.map usrT) ++ t).length + 1) (join [44] (l.map usrT) ++ t)).map _ = _;rw [Em xusr usrT t ht.stop l _ hn (by rw [List.length_append]; omega) (fun x hx u hu => QV x u (hv x hx) hu)];rfl
 | knds l =>
  have hn : l ≠ [] := by intro e; subst e; exact hz rfl
  have := Ci kndT J2 l;show (AD xknd ((join [44] (l.map kndT) ++ t).length + 1) (join [44] (l.map kndT) ++ t)).map _ = _;rw [Em xknd kndT t ht.stop l _ hn (by rw [List.length_append]; omega) (fun x hx u hu => Ry x u (hv x hx) hu)];rfl
theorem NK_nm : ∀ p ∈ NK, ∀ c ∈ p.1, nmch c = true := by decide
theorem Blank.nm {t : Str} (h : Blank t) : Stop nmch t := by intro c r e; rw [h c r e]; decide
theorem Lj {p : List (Str × FK)} {nm : Str} {k : FK} {q : List (Str × FK)} (hNK : NK = p ++ (nm, k) :: q) {t : Str} (ht : Stop nmch t) : xname (nm ++ t) = some (p.length, t) := by
 have hmem : (nm, k) ∈ NK := by rw [hNK]; simp
 have hs := Dj (NK_nm _ hmem) ht;have hfind : NK.findIdx? (fun x => decide (x.1 = nm)) = some p.length := by rw [hNK]; exact Ll p nm k q (by rw [← hNK]; exact Gh)
 unfold xname;rw [hs.1, hs.2, hfind];rfl
theorem GQ : ∀ (q : List (Str × FK)) (p : List (Str × FK)) (a b : List FV) (n : Nat), NK = p ++ q → a.length = p.length → Fits q b → (items q b).length < n →
  Bb n (a ++ zeros q) (restL q b) = some (a ++ b)
 | [], p, a, b, n, _, _, hf, hn => by
  have : b = [] := List.eq_nil_of_length_eq_zero hf.1;subst this
  cases n with
  | zero => simp at hn
  | succ n =>
   unfold Bb;rw [if_pos (show restL [] [] = [] from rfl)];rfl
 | (nm, k) :: q, p, a, [], n, _, _, hf, _ => by have := hf.1; simp at this
 | (nm, k) :: q, p, a, v :: b, 0, _, _, _, hn => by simp at hn
 | (nm, k) :: q, p, a, v :: b, n + 1, hNK, ha, hf, hn => by
  have hmem : (nm, k) ∈ NK := by rw [hNK]; simp
  have hnm := NK_az _ hmem;have hv := hf.2 0 (nm, k) v rfl rfl;have hf' : Fits q b := ⟨by have := hf.1; simpa using this, fun i nk v h1 h2 => hf.2 (i + 1) nk v h1 h2⟩;have hNK' : NK = (p ++ [(nm, k)]) ++ q := by rw [hNK]; simp
  by_cases hi : item nm v = []
  ·have hz := Jr hnm.1 hi;have e1 : restL ((nm, k) :: q) (v :: b) = restL q b := by unfold restL; rw [CZ, if_pos hi]
   have e2 : a ++ zeros ((nm, k) :: q) = (a ++ [v]) ++ zeros q := by
    rw [hz, hv.1]; simp [zeros]
   rw [CZ, if_pos hi] at hn;rw [e1, e2, GQ q (p ++ [(nm, k)]) (a ++ [v]) b (n + 1) hNK' (by simp [ha]) hf' hn];simp
  ·rw [Im nm k q v b hi];have hb := GI (restL q b);have hk : Bs p.length = k := by unfold Bs; rw [hNK]; simp
   have hset : (a ++ zeros ((nm, k) :: q)).set p.length v = (a ++ [v]) ++ zeros q := by
    rw [← ha, List.set_append_right _ _ (Nat.le_refl _), Nat.sub_self];simp [zeros]
   have hne : item nm v ++ Bf (restL q b) ≠ [] := by simp [hi]
   rw [CZ, if_neg hi, List.length_cons] at hn;have ih := GQ q (p ++ [(nm, k)]) (a ++ [v]) b n hNK' (by simp [ha]) hf' (by omega);have hlast : (if Bf (restL q b) = [] then some ((a ++ [v]) ++ zeros q) else match xsign 32 (Bf (restL q b)) with | none => none | some r => Bb n ((a ++ [v]) ++ zeros q) r) = some (a ++ [v] ++ b) := by
    unfold Bf;by_cases h0 : restL q b = []
    ·rw [if_pos h0, if_pos rfl];rw [h0] at ih
     cases n with
     | zero => simp at hn
     | succ n =>
      unfold Bb at ih;rw [if_pos rfl] at ih;rw [ih]
    ·rw [if_neg h0, if_neg (by simp), Ct];exact ih
   have hfld : xname (item nm v ++ Bf (restL q b)) = some (p.length, if isFlg k then Bf (restL q b) else 61 :: (v.text ++ Bf (restL q b))) ∧ Bq p.length (if isFlg k then Bf (restL q b) else 61 :: (v.text ++ Bf (restL q b))) = some (v, Bf (restL q b)) := by
    unfold Bq;rw [hk]
    cases hfl : isFlg k with
    | true =>
     have hvt : v = .flg true := by
      have := hv.1
      cases v with
      | flg b => cases b with
       | true => rfl
       | false => exact absurd rfl hi
      | _ => (simp only [FV.kind] at this; subst this; cases hfl)
     have hki : k = .flg := by cases k <;> first | rfl | cases hfl
     have hit : item nm v = nm := by rw [hvt]; rfl
     rw [hit];simp only [if_true];refine ⟨Lj hNK hb.nm, ?_⟩;rw [hki, hvt];rfl
    | false =>
     have hkf : isFlg v.kind = false := by rw [hv.1]; exact hfl
     have hvt : v.text ≠ [] := by
      intro e;rw [CA nm hkf, if_pos e] at hi;exact hi rfl
     have hit : item nm v ++ Bf (restL q b) = nm ++ (61 :: (v.text ++ Bf (restL q b))) := by rw [CA nm hkf, if_neg hvt]; simp
     have hs : Stop nmch (61 :: (v.text ++ Bf (restL q b))) := by intro c r h; injection h with h1 h2; subst h1; decide
     rw [hit];simp only [Bool.false_eq_true, if_false];refine ⟨Lj hNK hs, ?_⟩;rw [Ct];show DE k (v.text ++ Bf (restL q b)) = _;have hk2 : v.kind = k := hv.1;rw [← hk2];exact Nf v _ hv.2 hvt hb
   unfold Bb;rw [if_neg hne, hfld.1];simp only [hfld.2, hset, hlast];simp
theorem KF (e : List FV) (h : Fits NK e) : Eb (line e) = some e := by
 unfold Eb;have h1 := GQ NK [] [] e ((line e).length + 1) rfl rfl h (by have := JA NK e; unfold line; omega);rw [List.nil_append, List.nil_append] at h1;rw [show Bb ((line e).length + 1) (zeros NK) (line e) = some e from h1];simp
theorem CY {s t : Str} {n : Int} (h : xnum s = some (n, t)) : inInt n := by
 unfold xnum at h
 cases hr : rint (s.takeWhile numch) with
 | none => rw [hr] at h; cases h
 | some m =>
  rw [hr] at h;injection h with h;injection h with h1 h2;rw [← h1];exact (Ei hr).2
theorem DH {α : Type} {one : Str → Option (α × Str)} {P : α → Prop} (h1 : ∀ s x t, one s = some (x, t) → P x) : ∀ (n : Nat) (s t : Str) (l : List α), AD one n s = some (l, t) → ∀ x ∈ l, P x
 | 0, s, t, l, h => by cases h
 | n + 1, s, t, l, h => by
  unfold AD at h
  cases ho : one s with
  | none => rw [ho] at h; cases h
  | some p =>
   rw [ho] at h;simp only [Option.bind_some] at h;have hp := h1 s p.1 p.2 ho;split at h
   ·injection h with h;injection h with h2 h3;rw [← h2];intro x hx;rw [List.mem_singleton.1 hx];exact hp
   ·rename_i r hr
    cases hq : AD one n r with
    | none => rw [hq] at h; cases h
    | some q =>
     rw [hq] at h;injection h with h;injection h with h2 h3;rw [← h2];intro x hx;rcases List.mem_cons.1 hx with rfl | hx
     ·exact hp
     ·exact DH h1 n r q.2 q.1 hq x hx
theorem Ml {s t : Str} {x : Str × Int} (h : xusr s = some (x, t)) : inInt x.2 := by
 unfold xusr at h
 cases h1 : At s with
 | none => rw [h1] at h; cases h
 | some p =>
  rw [h1] at h;simp only [Option.bind_some] at h
  cases h2 : xsign 58 p.2 with
  | none => rw [h2] at h; cases h
  | some r =>
   rw [h2] at h;simp only [Option.bind_some] at h
   cases h3 : xnum r with
   | none => rw [h3] at h; cases h
   | some n =>
    rw [h3] at h;injection h with h;injection h with h4 h5;rw [← h4];exact CY h3
theorem Mb {s t : Str} {x : Int × Int} (h : xknd s = some (x, t)) : inInt x.1 ∧ inInt x.2 := by
 unfold xknd at h
 cases h1 : xnum s with
 | none => rw [h1] at h; cases h
 | some p =>
  rw [h1] at h;simp only [Option.bind_some] at h
  cases h2 : xsign 58 p.2 with
  | none => rw [h2] at h; cases h
  | some r =>
   rw [h2] at h;simp only [Option.bind_some] at h
   cases h3 : xnum r with
   | none => rw [h3] at h; cases h
   | some n =>
    rw [h3] at h;injection h with h;injection h with h4 h5;rw [← h4];exact ⟨CY h1, CY h3⟩
theorem Fr (k : FK) {s t : Str} {v : FV} (h : DE k s = some (v, t)) : v.kind = k ∧ v.Ok := by
 cases k with
 | flg => injection h with h; injection h with h1 h2; rw [← h1]; exact ⟨rfl, trivial⟩
 | num =>
  have h : (xnum s).map _ = _ := h
  cases hx : xnum s with
  | none => rw [hx] at h; cases h
  | some p => rw [hx] at h; injection h with h; injection h with h1 h2; rw [← h1]; exact ⟨rfl, CY hx⟩
 | txt =>
  have h : (At s).map _ = _ := h
  cases hx : At s with
  | none => rw [hx] at h; cases h
  | some p => rw [hx] at h; injection h with h; injection h with h1 h2; rw [← h1]; exact ⟨rfl, trivial⟩
 | nums =>
  have h : (xlist xnum s).map _ = _ := h
  cases hx : xlist xnum s with
  | none => rw [hx] at h; cases h
  | some p => rw [hx] at h; injection h with h; injection h with h1 h2; rw [← h1]; exact ⟨rfl, DH (P := inInt) (fun s x t h => CY h) _ _ _ _ hx⟩
 | txts =>
  have h : (xlist At s).map _ = _ := h
  cases hx : xlist At s with
  | none => rw [hx] at h; cases h
  | some p => rw [hx] at h; injection h with h; injection h with h1 h2; rw [← h1]; exact ⟨rfl, trivial⟩
 | usrs =>
  have h : (xlist xusr s).map _ = _ := h
  cases hx : xlist xusr s with
  | none => rw [hx] at h; cases h
  | some p => rw [hx] at h; injection h with h; injection h with h1 h2; rw [← h1]; exact ⟨rfl, (DH (one := xusr) (P := fun y : Str × Int => inInt y.2) (fun _ _ _ h => Ml h) _ _ _ _ hx : ∀ y ∈ p.1, inInt y.2)⟩
 | knds =>
  have h : (xlist xknd s).map _ = _ := h
  cases hx : xlist xknd s with
  | none => rw [hx] at h; cases h
  | some p => rw [hx] at h; injection h with h; injection h with h1 h2; rw [← h1]; exact ⟨rfl, (DH (one := xknd) (P := fun y : Int × Int => inInt y.1 ∧ inInt y.2) (fun _ _ _ h => Mb h) _ _ _ _ hx : ∀ y ∈ p.1, inInt y.1 ∧ inInt y.2)⟩
theorem Hf {i : Nat} {s t : Str} {v : FV} (h : Bq i s = some (v, t)) : v.kind = Bs i ∧ v.Ok := by
 unfold Bq at h;split at h
 ·exact Fr _ h
 ·cases hs : xsign 61 s with
  | none => rw [hs] at h; cases h
  | some r => rw [hs] at h; exact Fr _ h
theorem Fits.set {e : List FV} (h : Fits NK e) {i : Nat} {v : FV} (hv : v.kind = Bs i ∧ v.Ok) : Fits NK (e.set i v) := by
 refine ⟨by rw [List.length_set]; exact h.1, fun j nk u hj hu => ?_⟩;by_cases e1 : i = j
 ·subst e1;rw [List.getElem?_set] at hu;split at hu
  ·split at hu
   ·injection hu with hu;rw [← hu];refine ⟨?_, hv.2⟩;rw [hv.1];unfold Bs;rw [hj];rfl
   ·cases hu
  ·rename_i hx;exact absurd rfl hx
 ·rw [List.getElem?_set_ne e1] at hu;exact h.2 j nk u hj hu
theorem Hb : ∀ (n : Nat) (e f : List FV) (s : Str), Bb n e s = some f → Fits NK e → Fits NK f
 | 0, e, f, s, h, _ => by cases h
 | n + 1, e, f, s, h, he => by
  unfold Bb at h;split at h
  ·injection h with h; rw [← h]; exact he
  ·split at h
   ·cases h
   ·rename_i p hp;split at h
    ·cases h
    ·rename_i q hq;have hs := he.set (Hf (t := q.2) (v := q.1) hq);split at h
     ·injection h with h; rw [← h]; exact hs
     ·split at h
      ·cases h
      ·exact Hb n _ f _ h hs
theorem DU : Fits NK (zeros NK) := by
 refine ⟨List.length_map _, fun i nk v hi hv => ?_⟩;unfold zeros at hv;rw [List.getElem?_map, hi] at hv;injection hv with hv;have hv : nk.2.zero = v := hv;rw [← hv]
 constructor
 ·generalize nk.2 = k;cases k <;> rfl
 ·generalize nk.2 = k
  cases k with
  | num => show inInt 0; unfold inInt; omega
  | nums => intro n hn; cases hn
  | usrs => intro n hn; cases hn
  | knds => intro n hn; cases hn
  | _ => trivial
theorem KW {s : Str} {e : List FV} (h : Eb s = some e) : line e = s ∧ Fits NK e := by
 unfold Eb at h;split at h
 ·cases h
 ·rename_i f hf;split at h
  ·rename_i hl;injection h with h;rw [← h];exact ⟨hl, Hb _ _ _ _ hf DU⟩
  ·cases h
theorem Bi (r : RS) : inInt (rnum r).1 := by
 unfold rnum;split
 ·rename_i n hn;exact L9 hn
 ·show inInt 0;unfold inInt;omega
theorem DL {α : Type} {one : RS → α × RS} {P : α → Prop} (h1 : ∀ r, P (one r).1) : ∀ (n : Nat) (r : RS), ∀ x ∈ (Au one n r).1, P x
 | 0, r, x, hx => by cases hx
 | n + 1, r, x, hx => by
  unfold Au at hx;split at hx
  ·rcases List.mem_cons.1 hx with rfl | hx
   ·exact h1 r
   ·exact DL h1 n _ x hx
  ·rw [List.mem_singleton.1 hx];exact h1 r
theorem Mv (k : FK) (r : RS) : (readK k r).1.kind = k ∧ (readK k r).1.Ok := by
 cases k with
 | num => exact ⟨rfl, Bi r⟩
 | txt => exact ⟨rfl, trivial⟩
 | flg => exact ⟨rfl, trivial⟩
 | nums => exact ⟨rfl, DL (P := inInt) Bi _ r⟩
 | txts => exact ⟨rfl, trivial⟩
 | usrs => exact ⟨rfl, DL (one := rusr) (P := fun x => inInt x.2) (fun r => Bi _) _ r⟩
 | knds => exact ⟨rfl, DL (one := rknd) (P := fun x => inInt x.1 ∧ inInt x.2) (fun r => ⟨Bi _, Bi _⟩) _ r⟩
theorem IE : ∀ (n : Nat) (e : List FV) (r : RS) (p : List FV × RS), loopF n e r = some p → Fits NK e → Fits NK p.1
 | 0, e, r, p, h, _ => by cases h
 | n + 1, e, r, p, h, he => by
  rw [Dh] at h;split at h
  ·injection h with h; rw [← h]; exact he
  ·split at h
   ·cases h
   ·rename_i i hi;refine IE n _ _ p h ?_;unfold CB;simp only;split <;> split <;> first | exact he | exact he.set (Mv _ _)
theorem F3 {s : Str} {e : List FV} (h : parse s = some e) : Fits NK e := by
 unfold parse at h;split at h
 ·cases h
 ·rename_i p hp;split at h
  ·cases h
  ·injection h with h;rw [← h];exact IE _ _ _ _ hp DU
theorem Fu (s : Str) : Eb s = parse s := by
 cases h : Eb s with
 | some e =>
  obtain ⟨hl, hf⟩ := KW h;rw [← hl, C0 e hf]
 | none =>
  cases h2 : parse s with
  | none => rfl
  | some e =>
   have hf := F3 h2;have hl := F8 h2;rw [← hl, KF e hf] at h;cases h
end Ar
