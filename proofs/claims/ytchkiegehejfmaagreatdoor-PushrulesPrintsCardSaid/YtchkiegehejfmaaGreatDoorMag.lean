/- The texts Ya, W0, Ud, Ue, Ur of this proof, one behind the other. -/
import Derived.WalkLawsBesides
import Derived.Test.YtchkiegehejfmaaGreatDoorMaf
import Derived.Test.YtchkiegehejfmaaGreatDoorMac
import Derived.Test.YtchkiegehejfmaaGreatDoorMae
set_option linter.unusedSimpArgs false
set_option maxHeartbeats 16000000
set_option maxRecDepth 100000
/- The text Ya. -/
namespace Go.Proofs.YtchkiegehejfmaaGreatDoor
open Go.RowKit Go.Lib
set_option linter.unusedVariables false
set_option linter.unusedSimpArgs false
theorem drop_at (s : ByteArray) (k : Nat) (h : k < s.size) : s.data.toList.drop k = s[k] :: s.data.toList.drop (k + 1) := by
 obtain ⟨h1, h2⟩ := List.getElem?_eq_some_iff.1 (at_str s k h)
 rw [← h2]
 exact List.drop_eq_getElem_cons h1
theorem drop_end (s : ByteArray) (k : Nat) (h : s.size ≤ k) : s.data.toList.drop k = [] := List.drop_of_length_le (by rw [← str_size]; exact h)
abbrev brk : List PanicEntry := [{ v := .iface 82 (.agg #[]), recovered := false }]
def QuA (S : ByteArray) (e : Ending) : Option (List UInt8 × List UInt8) → Prop
 | none => e = .panicked brk
 | some (t, q) => ∃ k, k ≤ S.size ∧ q = S.data.toList.drop k ∧ e = .returned (.tuple #[.string (bstr t), .int .i64 (k : Int)])
theorem QuA.bad {S : ByteArray} {x : Option (List UInt8 × List UInt8)} (h : none = x) : QuA S (.panicked brk) x := by subst h; exact rfl
theorem QuA.good {S : ByteArray} {k : Nat} {t : List UInt8} {x : Option (List UInt8 × List UInt8)} (hk : k ≤ S.size) (h : some (t, S.data.toList.drop k) = x) : QuA S (.returned (.tuple #[.string (bstr t), .int .i64 (k : Int)])) x := by subst h; exact ⟨k, hk, rfl, rfl⟩
theorem QuA.good1 {S : ByteArray} {k : Nat} {t : List UInt8} {x : Option (List UInt8 × List UInt8)} (hk : k + 1 ≤ S.size) (h : some (t, S.data.toList.drop (k + 1)) = x) : QuA S (.returned (.tuple #[.string (bstr t), .int .i64 ((k : Int) + 1)])) x := QuA.good hk h
theorem quote_end (acc : List UInt8) : Pr.quoteP acc [] = none := by unfold Pr.quoteP; rfl
theorem quote_hit {c : UInt8} (acc r : List UInt8) (h : c = 34) : Pr.quoteP acc (c :: r) = some (acc, r) := by unfold Pr.quoteP; rw [if_pos h]
theorem quote_go {c : UInt8} (acc r : List UInt8) (h : c ≠ 34) (h2 : c ≠ 92) : Pr.quoteP acc (c :: r) = Pr.quoteP (acc ++ [c]) r := by conv => lhs; unfold Pr.quoteP; rw [if_neg h, if_neg h2]
theorem quote_esc1 {c : UInt8} (acc : List UInt8) (h : c = 92) : Pr.quoteP acc [c] = none := by subst h; unfold Pr.quoteP; rfl
theorem quote_esc2 {c d : UInt8} (acc r : List UInt8) (h : c = 92) (h2 : d = 34 ∨ d = 92) : Pr.quoteP acc (c :: d :: r) = Pr.quoteP (acc ++ [d]) r := by
 subst h
 conv => lhs; unfold Pr.quoteP
 rw [if_neg (by decide), if_pos rfl]
 exact if_pos h2
theorem quote_esc3 {c d : UInt8} (acc r : List UInt8) (h : c = 92) (h2 : ¬ (d = 34 ∨ d = 92)) : Pr.quoteP acc (c :: d :: r) = none := by
 subst h
 conv => lhs; unfold Pr.quoteP
 rw [if_neg (by decide), if_pos rfl]
 exact if_neg h2
theorem u8_eq {c d : UInt8} {n : Int} (hn : (d.toNat : Int) = n) (h : c = d) : ((c.toNat : Int) == n) = true := by subst h; rw [beq_iff_eq]; exact hn
theorem u8_bne {c d : UInt8} {n : Int} (hn : (d.toNat : Int) = n) (h : c ≠ d) : ((c.toNat : Int) != n) = true := by rw [bne, u8_ne hn h]; rfl
theorem u8_beq {c d : UInt8} {n : Int} (hn : (d.toNat : Int) = n) (h : c = d) : ((c.toNat : Int) != n) = false := by rw [bne, u8_eq hn h]; rfl
theorem quoted_any (S : ByteArray) (i : Nat) (w : World) (hs : S.size ≤ 1000000) (hi : i ≤ S.size) :
  Calls Tryz.prog 109 #[.string S, .int .i64 (i : Int)] w fun e w' => QuA S e (Pr.quoteP [] (S.data.toList.drop i)) ∧ Below w.heap.size w w' := by
 have HDA : Hid (∀ k (h : k < S.size), S.data.toList.drop k = S[k] :: S.data.toList.drop (k + 1)) := hid (drop_at S)
 have HDE : Hid (∀ k, S.size ≤ k → S.data.toList.drop k = []) := hid (drop_end S)
 obtain ⟨X, hX⟩ : ∃ X, Pr.quoteP [] (S.data.toList.drop i) = X := ⟨_, rfl⟩
 have HX := hid hX
 rw [hX]
 clear hX
 go_enter Tryz.func109, Tryz.ntmps109
 go_wp2_with fail
 go_loopw [1, 6] (fun ix b wr => ∃ (k : Nat) (ol : List UInt8), k ≤ S.size ∧ ix = .int .i64 k ∧ OwnB w.heap.size wr b ol ∧ Hid (Pr.quoteP ol (S.data.toList.drop k) = X) ∧ ol.length ≤ k ∧ Below w.heap.size w wr) (fun ix _ _ => S.size - (RowKit.intOf ix).toNat)
 case atStart => exact ⟨i, [], hi, rfl, own_nil _ _ _, HX, by simp, Below.refl _ _⟩
 case round =>
  obtain ⟨k, ol, hk, rfl, ho, hrl, hol, hb⟩ := hrel
  have HO := hid ho
  have HB := hid hb
  have hbs := hb.size
  obtain ⟨A, cap, rfl, -⟩ := own_at ho
  clear ho hb
  by_cases hlt : k < S.size
  ·have hdl := HDA.out k hlt
   have hc2 := (S[k]'hlt).toNat_lt
   by_cases h34 : S[k]'hlt = 34
   ·have hy := u8_beq (n := 34) rfl h34
    have HE : Hid (some (ol, S.data.toList.drop (k + 1)) = X) := hid (by rw [← hrl.out, hdl, quote_hit _ _ h34])
    have hcv := conv_own HO.out
    clear h34 hdl
    go_wp2_with fail
    go_ret2
    exact ⟨QuA.good1 (by omega) HE.out, HB.out⟩
   ·have hy := u8_bne (n := 34) rfl h34
    by_cases h92 : S[k]'hlt = 92
    ·have hx := u8_eq (n := 92) rfl h92
     by_cases hk1 : k + 1 < S.size
     ·have hdl2 := HDA.out (k + 1) hk1
      have hd2 := (S[k + 1]'hk1).toNat_lt
      by_cases hd : S[k + 1]'hk1 = 34
      ·have hu := u8_beq (n := 34) rfl hd
       have HT : Hid (Pr.quoteP (ol ++ [S[k + 1]'hk1]) (S.data.toList.drop (k + 2)) = X) := hid (by rw [← hrl.out, hdl, hdl2, quote_esc2 _ _ h92 (.inl hd)])
       clear hdl hdl2 h34 h92 hd
       go_wp2_with (at_builtin; refine app_u8 rfl _ _ rfl wr [S[k + 1]'hk1] (.slice A ol.length cap) ol w.heap.size rfl HO.out rfl hbs (by simp; omega) ?_; intro v2 w3 ho3 hg3 hb3)
       go_roundw
       case rel => exact ⟨k + 2, ol ++ [S[k + 1]'hk1], by omega, by go_num, ho3, HT, by rw [List.length_append]; simp; omega, hb3 _ HB.out⟩
       case measure => simp [RowKit.intOf]; omega
      ·have hu := u8_bne (n := 34) rfl hd
       by_cases hd9 : S[k + 1]'hk1 = 92
       ·have hv := u8_beq (n := 92) rfl hd9
        have HT : Hid (Pr.quoteP (ol ++ [S[k + 1]'hk1]) (S.data.toList.drop (k + 2)) = X) := hid (by rw [← hrl.out, hdl, hdl2, quote_esc2 _ _ h92 (.inr hd9)])
        clear hdl hdl2 h34 h92 hd hd9
        go_wp2_with (at_builtin; refine app_u8 rfl _ _ rfl wr [S[k + 1]'hk1] (.slice A ol.length cap) ol w.heap.size rfl HO.out rfl hbs (by simp; omega) ?_; intro v2 w3 ho3 hg3 hb3)
        go_roundw
        case rel => exact ⟨k + 2, ol ++ [S[k + 1]'hk1], by omega, by go_num, ho3, HT, by rw [List.length_append]; simp; omega, hb3 _ HB.out⟩
        case measure => simp [RowKit.intOf]; omega
       ·have hv := u8_bne (n := 92) rfl hd9
        have HE : Hid (none = X) := hid (by rw [← hrl.out, hdl, hdl2, quote_esc3 _ _ h92 (by simp [hd, hd9])])
        clear hdl hdl2 h34 h92 hd hd9
        go_wp2_with fail
        exact ⟨rfl, QuA.bad HE.out, HB.out⟩
     ·have HE : Hid (none = X) := hid (by rw [← hrl.out, hdl, HDE.out (k + 1) (by omega), quote_esc1 _ h92])
      clear hdl h34 h92
      go_wp2_with fail
      exact ⟨rfl, QuA.bad HE.out, HB.out⟩
    ·have hx := u8_ne (n := 92) rfl h92
     have HT : Hid (Pr.quoteP (ol ++ [S[k]'hlt]) (S.data.toList.drop (k + 1)) = X) := hid (by rw [← hrl.out, hdl, quote_go _ _ h34 h92])
     clear hdl h34 h92
     go_wp2_with (at_builtin; refine app_u8 rfl _ _ rfl wr [S[k]'hlt] (.slice A ol.length cap) ol w.heap.size rfl HO.out rfl hbs (by simp; omega) ?_; intro v2 w3 ho3 hg3 hb3)
     go_roundw
     case rel => exact ⟨k + 1, ol ++ [S[k]'hlt], by omega, by go_num, ho3, HT, by rw [List.length_append]; simp; omega, hb3 _ HB.out⟩
     case measure => simp [RowKit.intOf]; omega
  ·have HE : Hid (none = X) := hid (by rw [← hrl.out, HDE.out k (by omega), quote_end])
   go_wp2_with fail
   exact ⟨rfl, QuA.bad HE.out, HB.out⟩
end Go.Proofs.YtchkiegehejfmaaGreatDoor
/- The text W0. -/
namespace Pr
def escC (c : UInt8) : Str := if c = 34 ∨ c = 92 then [92, c] else [c]
def quoteT (s : Str) : Str := 34 :: (s.flatMap escC ++ [34])
def joint (o k : Int) : Bool := k == 3 || (k == 2 && o != 3)
def sepW (o : Int) : Str := if o = 2 then andW else if o = 3 then orW else []
def leafT (o : Int) (t : Str) (n : Int) : Str :=
 if o = 5 then [107, 105, 110, 100, 32] ++ kindL.getD (n - 1).toNat []
 else if o = 6 ∨ o = 7 ∨ o = 8 then fieldW o ++ 32 :: quoteT t
 else if o = 9 then [119, 111, 114, 100, 32] ++ t
 else if o = 10 ∨ o = 11 ∨ o = 12 then fieldW o ++ 32 :: Ar.itoa n
 else simpleW o
mutual
def textC : Cn → Str
 | .mk o t n ks => if o = 2 ∨ o = 3 then textK o true ks else if o = 4 then [110, 111, 116, 32] ++ textK 4 true ks else leafT o t n
def textK (o : Int) (first : Bool) : List Cn → Str
 | [] => []
 | c :: r => (if first then [] else 32 :: (sepW o ++ [32])) ++ ((if joint o c.op then 40 :: (textC c ++ [41]) else textC c) ++ textK o false r)
end
def joinT : List Str → Str
 | [] => []
 | a :: r => a ++ r.flatMap fun b => 44 :: 32 :: b
def ruleT (x : Rl) : Str := [114, 117, 108, 101, 32] ++ (x.name ++ ([32, 119, 104, 101, 110, 32] ++ (textC x.wh ++ ([32, 100, 111, 32] ++ joinT x.acts))))
def printT (l : List Rl) : Str := l.flatMap fun x => ruleT x ++ [10]
def printP (l : List Rl) : Str × Int := if checkE l ≠ 0 then ([], checkE l) else if 20000 < (printT l).length then ([], 7) else (printT l, 0)
def commentP (s : Str) : Bool := match s.dropWhile (· == 32) with
 | [] => true
 | c :: _ => c == 35
def parseL : Nat → List Rl → List Str → List Rl × Nat
 | _, acc, [] => (acc, 0)
 | i, acc, t :: r => if commentP t then parseL (i + 1) acc r else match lineP t with
  | none => ([], i + 1)
  | some x => parseL (i + 1) (acc ++ [x]) r
def parseP (s : Str) : List Rl × Int × Int := if 20000 < s.length then ([], 0, 7) else
 if (parseL 0 [] (Ar.lines s)).2 ≠ 0 then ([], ((parseL 0 [] (Ar.lines s)).2 : Int), 10)
 else if checkE (parseL 0 [] (Ar.lines s)).1 ≠ 0 then ([], 0, checkE (parseL 0 [] (Ar.lines s)).1)
 else ((parseL 0 [] (Ar.lines s)).1, 0, 0)
theorem wordc_of {c : UInt8} (h1 : c ≠ 32) (h2 : ¬ markOf c ≠ 0) (h3 : c ≠ 34) : wordc c = true := by
 unfold wordc
 have h2' : markOf c = 0 := Classical.not_not.1 h2
 simp [h1, h2', h3]
theorem quoteP_len : ∀ (n : Nat) (r acc t q : Str), r.length ≤ n → quoteP acc r = some (t, q) → q.length < r.length
 | _, [], acc, t, q, _, h => by simp [quoteP] at h
 | 0, c :: r, acc, t, q, hn, h => by simp at hn
 | n + 1, c :: r, acc, t, q, hn, h => by
  rw [List.length_cons] at hn
  unfold quoteP at h
  split at h
  ·injection h with h; injection h with h1 h2; subst h2; simp
  ·split at h
   ·cases r with
    | nil => cases h
    | cons d r =>
     simp only at h
     rw [List.length_cons] at hn
     split at h
     ·have := quoteP_len n r _ t q (by omega) h
      simp; omega
     ·cases h
   ·have := quoteP_len n r _ t q (by omega) h
    simp; omega
theorem dropWhile_le {p : UInt8 → Bool} : ∀ s : Str, (s.dropWhile p).length ≤ s.length
 | [] => by simp
 | c :: r => by
  rw [List.dropWhile_cons]
  split
  ·have := dropWhile_le (p := p) r; simp; omega
  ·simp
theorem toks_fuel : ∀ (n m : Nat) (acc : List Tk) (s : Str), s.length < n → s.length < m → toks n acc s = toks m acc s
 | 0, _, _, _, h, _ => by omega
 | _ + 1, 0, _, _, _, h => by omega
 | n + 1, m + 1, acc, [], _, _ => rfl
 | n + 1, m + 1, acc, c :: r, h1, h2 => by
  rw [List.length_cons] at h1 h2
  rw [toks, toks]
  split
  ·exact toks_fuel n m _ _ (by omega) (by omega)
  ·rename_i g1
   split
   ·exact toks_fuel n m _ _ (by omega) (by omega)
   ·rename_i g2
    split
    ·cases hq : quoteP [] r with
     | none => rfl
     | some tq =>
      obtain ⟨t, q⟩ := tq
      have := quoteP_len _ r _ _ _ (Nat.le_refl _) hq
      exact toks_fuel n m _ _ (by omega) (by omega)
    ·rename_i g3
     have hw := wordc_of g1 g2 g3
     have hd : (c :: r).dropWhile wordc = r.dropWhile wordc := by rw [List.dropWhile_cons, if_pos hw]
     rw [hd]
     have := dropWhile_le (p := wordc) r
     exact toks_fuel n m _ _ (by omega) (by omega)
theorem toks_acc : ∀ (n : Nat) (acc : List Tk) (s : Str), toks n acc s = (toks n [] s).map (acc ++ ·)
 | 0, acc, s => rfl
 | n + 1, acc, [] => by simp [toks]
 | n + 1, acc, c :: r => by
  rw [toks, toks]
  split
  ·exact toks_acc n acc r
  ·split
   ·rw [toks_acc n (acc ++ _), toks_acc n ([] ++ _)]
    cases toks n [] r <;> simp
   ·split
    ·cases quoteP [] r with
     | none => rfl
     | some tq =>
      obtain ⟨t, q⟩ := tq
      show toks n (acc ++ _) q = (toks n ([] ++ _) q).map _
      rw [toks_acc n (acc ++ _), toks_acc n ([] ++ _)]
      cases toks n [] q <;> simp
    ·rw [toks_acc n (acc ++ _), toks_acc n ([] ++ _)]
     cases toks n [] ((c :: r).dropWhile wordc) <;> simp
def tkz (s : Str) : Option (List Tk) := toks (s.length + 1) [] s
theorem tkz_nil : tkz [] = some [] := rfl
theorem tkz_blank (r : Str) : tkz (32 :: r) = tkz r := by
 unfold tkz
 rw [toks, if_pos rfl]
 exact toks_fuel _ _ _ _ (by simp) (by simp)
theorem tkz_mark (c : UInt8) (r : Str) (h : markOf c ≠ 0) : tkz (c :: r) = (tkz r).map (⟨markOf c, []⟩ :: ·) := by
 have h1 : c ≠ 32 := by rintro rfl; exact h rfl
 unfold tkz
 rw [toks, if_neg h1, if_pos h, toks_acc]
 rw [toks_fuel _ (r.length + 1) [] r (by simp) (by simp)]
 rfl
theorem quoteP_esc : ∀ (s acc r : Str), quoteP acc (s.flatMap escC ++ 34 :: r) = some (acc ++ s, r)
 | [], acc, r => by
  show quoteP acc (34 :: r) = _
  unfold quoteP
  rw [if_pos rfl, List.append_nil]
 | c :: s, acc, r => by
  have ih := quoteP_esc s (acc ++ [c]) r
  rw [List.flatMap_cons, List.append_assoc]
  generalize s.flatMap escC ++ 34 :: r = z at *
  unfold escC
  by_cases h : c = 34 ∨ c = 92
  ·rw [if_pos h]
   show quoteP acc (92 :: c :: z) = _
   unfold quoteP
   rw [if_neg (by decide), if_pos rfl]
   show (if c = 34 ∨ c = 92 then quoteP (acc ++ [c]) z else none) = _
   rw [if_pos h, ih, List.append_assoc]
   rfl
  ·rw [if_neg h]
   show quoteP acc (c :: z) = _
   unfold quoteP
   rw [if_neg (fun e => h (.inl e)), if_neg (fun e => h (.inr e)), ih, List.append_assoc]
   rfl
theorem tkz_quote (s r : Str) : tkz (quoteT s ++ r) = (tkz r).map (⟨2, s⟩ :: ·) := by
 have e : quoteT s ++ r = 34 :: (s.flatMap escC ++ 34 :: r) := by unfold quoteT; simp
 rw [e]
 unfold tkz
 rw [toks, if_neg (by decide), if_neg (by decide), if_pos rfl, quoteP_esc]
 show toks _ ([] ++ [⟨2, [] ++ s⟩]) r = _
 rw [toks_acc, toks_fuel _ (r.length + 1) [] r (by simp; omega) (by simp)]
 rfl
theorem tkz_word (w r : Str) (hw : w ≠ []) (h : ∀ c ∈ w, wordc c = true) (hr : Ar.Stop wordc r) : tkz (w ++ r) = (tkz r).map (⟨1, w⟩ :: ·) := by
 obtain ⟨h1, h2⟩ := Ar.take_stop (p := wordc) h hr
 cases w with
 | nil => exact absurd rfl hw
 | cons c v =>
  have hc := h c (List.mem_cons_self ..)
  unfold wordc at hc
  simp only [Bool.and_eq_true, bne_iff_ne, beq_iff_eq] at hc
  unfold tkz
  rw [List.cons_append] at h1 h2 ⊢
  rw [toks, if_neg hc.1.1, if_neg (by rw [hc.2]; simp), if_neg hc.1.2, h1, h2]
  rw [toks_acc, toks_fuel _ (r.length + 1) [] r (by simp; omega) (by simp)]
  rfl
theorem stop_nil : Ar.Stop wordc [] := fun c r h => by cases h
theorem stop_cons {c : UInt8} (r : Str) (h : wordc c = false) : Ar.Stop wordc (c :: r) := fun d q e => by injection e with e1 e2; subst e1; exact h
def wrapTk (b : Bool) (l : List Tk) : List Tk := if b then ⟨3, []⟩ :: (l ++ [⟨4, []⟩]) else l
def leafTk (o : Int) (t : Str) (n : Int) : List Tk :=
 if o = 5 then [⟨1, fieldW 5⟩, ⟨1, kindL.getD (n - 1).toNat []⟩]
 else if o = 6 ∨ o = 7 ∨ o = 8 then [⟨1, fieldW o⟩, ⟨2, t⟩]
 else if o = 9 then [⟨1, fieldW 9⟩, ⟨1, t⟩]
 else if o = 10 ∨ o = 11 ∨ o = 12 then [⟨1, fieldW o⟩, ⟨1, Ar.itoa n⟩]
 else [⟨1, simpleW o⟩]
mutual
def tkC : Cn → List Tk
 | .mk o t n ks => if o = 2 ∨ o = 3 then tkK o true ks else if o = 4 then ⟨1, notW⟩ :: tkK 4 true ks else leafTk o t n
def tkK (o : Int) (first : Bool) : List Cn → List Tk
 | [] => []
 | c :: r => (if first then [] else [⟨1, sepW o⟩]) ++ (wrapTk (joint o c.op) (tkC c) ++ tkK o false r)
end
theorem tree_shape {o : Int} {t : Str} {n : Int} {ks : List Cn} (h : treeE (.mk o t n ks) = 0) :
  ((o = 1 ∨ o = 13 ∨ o = 14 ∨ o = 15 ∨ o = 16 ∨ o = 17) ∧ t = [] ∧ n = 0 ∧ ks = []) ∨
  ((o = 2 ∨ o = 3) ∧ t = [] ∧ n = 0 ∧ 2 ≤ ks.length ∧ treeEL ks = 0) ∨
  (o = 4 ∧ t = [] ∧ n = 0 ∧ ∃ k, ks = [k] ∧ treeE k = 0) ∨
  (o = 5 ∧ t = [] ∧ 1 ≤ n ∧ n ≤ 14 ∧ ks = []) ∨
  ((o = 6 ∨ o = 7 ∨ o = 8) ∧ n = 0 ∧ ks = [] ∧ globE t = 0) ∨
  (o = 9 ∧ n = 0 ∧ ks = [] ∧ okName false t = true) ∨
  ((o = 10 ∨ o = 11 ∨ o = 12) ∧ t = [] ∧ -1000000000000 ≤ n ∧ n ≤ 1000000000000 ∧ ks = []) := by
 rw [treeE] at h
 have h0 : nodeE o t n ks.length = 0 := by
  by_cases h0 : nodeE o t n ks.length = 0
  ·exact h0
  ·rw [if_pos h0] at h; exact absurd h h0
 rw [if_neg (fun e => e h0)] at h
 unfold nodeE at h0
 split at h0
 ·cases h0
 ·rename_i g
  simp only [not_or, not_and, Bool.not_eq_false] at g
  obtain ⟨g1, g2, g3, g4, g5⟩ := g
  have hk : 1 ≤ o ∧ o ≤ 17 := by
   unfold known at g1
   simpa using g1
  have nil0 : useKids o = false → ks = [] := fun hu => List.eq_nil_of_length_eq_zero (by have := g4 hu; omega)
  have t0 : useText o = false → t = [] := fun hu => Classical.not_not.1 (g2 hu)
  have n0 : useN o = false → n = 0 := fun hu => Classical.not_not.1 (g3 hu)
  clear g1 g2 g3 g4
  have hw : ∀ lo hi, withinE n lo hi = 0 → lo ≤ n ∧ n ≤ hi := fun lo hi hh => by
   unfold withinE at hh
   split at hh
   ·cases hh
   ·omega
  obtain rfl | rfl | rfl | rfl | rfl | rfl | rfl | rfl | rfl | rfl | rfl | rfl | rfl | rfl | rfl | rfl | rfl : o = 1 ∨ o = 2 ∨ o = 3 ∨ o = 4 ∨ o = 5 ∨ o = 6 ∨ o = 7 ∨ o = 8 ∨ o = 9 ∨ o = 10 ∨ o = 11 ∨ o = 12 ∨ o = 13 ∨ o = 14 ∨ o = 15 ∨ o = 16 ∨ o = 17 := by omega
  ·exact .inl ⟨by simp, t0 rfl, n0 rfl, nil0 rfl⟩
  ·refine .inr (.inl ⟨by simp, t0 rfl, n0 rfl, ?_, h⟩)
   have h1 : (if ks.length < 2 then (9 : Int) else 0) = 0 := h0
   split at h1
   ·cases h1
   ·omega
  ·refine .inr (.inl ⟨by simp, t0 rfl, n0 rfl, ?_, h⟩)
   have h1 : (if ks.length < 2 then (9 : Int) else 0) = 0 := h0
   split at h1
   ·cases h1
   ·omega
  ·refine .inr (.inr (.inl ⟨rfl, t0 rfl, n0 rfl, ?_⟩))
   have h1 : ks.length = 1 := Classical.not_not.1 (g5 rfl)
   match ks, h1, h with
   | [k], _, h =>
    refine ⟨k, rfl, ?_⟩
    rw [treeEL] at h
    by_cases h2 : treeE k = 0
    ·exact h2
    ·rw [if_pos h2] at h; exact absurd h h2
  ·have := hw _ _ h0
   exact .inr (.inr (.inr (.inl ⟨rfl, t0 rfl, this.1, this.2, nil0 rfl⟩)))
  ·exact .inr (.inr (.inr (.inr (.inl ⟨by simp, n0 rfl, nil0 rfl, h0⟩))))
  ·exact .inr (.inr (.inr (.inr (.inl ⟨by simp, n0 rfl, nil0 rfl, h0⟩))))
  ·exact .inr (.inr (.inr (.inr (.inl ⟨by simp, n0 rfl, nil0 rfl, h0⟩))))
  ·refine .inr (.inr (.inr (.inr (.inr (.inl ⟨rfl, n0 rfl, nil0 rfl, ?_⟩)))))
   have h1 : (if okName false t then (0 : Int) else 3) = 0 := h0
   cases hn : okName false t with
   | true => rfl
   | false => rw [hn] at h1; cases h1
  ·have := hw _ _ h0
   exact .inr (.inr (.inr (.inr (.inr (.inr ⟨by simp, t0 rfl, by omega, by omega, nil0 rfl⟩)))))
  ·have := hw _ _ h0
   exact .inr (.inr (.inr (.inr (.inr (.inr ⟨by simp, t0 rfl, by omega, by omega, nil0 rfl⟩)))))
  ·have := hw _ _ h0
   exact .inr (.inr (.inr (.inr (.inr (.inr ⟨by simp, t0 rfl, by omega, by omega, nil0 rfl⟩)))))
  ·exact .inl ⟨by simp, t0 rfl, n0 rfl, nil0 rfl⟩
  ·exact .inl ⟨by simp, t0 rfl, n0 rfl, nil0 rfl⟩
  ·exact .inl ⟨by simp, t0 rfl, n0 rfl, nil0 rfl⟩
  ·exact .inl ⟨by simp, t0 rfl, n0 rfl, nil0 rfl⟩
  ·exact .inl ⟨by simp, t0 rfl, n0 rfl, nil0 rfl⟩
theorem treeEL_cons {c : Cn} {r : List Cn} (h : treeEL (c :: r) = 0) : treeE c = 0 ∧ treeEL r = 0 := by
 rw [treeEL] at h
 by_cases h2 : treeE c = 0
 ·rw [if_neg (fun e => e h2)] at h; exact ⟨h2, h⟩
 ·rw [if_pos h2] at h; exact absurd h h2
theorem name_word {m : Bool} {c : UInt8} (h : nameCh m c = true) : wordc c = true := by
 refine wordc_of ?_ ?_ ?_
 ·rintro rfl; cases m <;> exact absurd h (by decide)
 ·intro hm
  unfold markOf at hm
  split at hm
  ·rename_i e; subst e; cases m <;> exact absurd h (by decide)
  ·split at hm
   ·rename_i e; subst e; cases m <;> exact absurd h (by decide)
   ·split at hm
    ·rename_i e; subst e; cases m <;> exact absurd h (by decide)
    ·exact hm rfl
 ·rintro rfl; cases m <;> exact absurd h (by decide)
theorem okName_word {m : Bool} {s : Str} (h : okName m s = true) : s ≠ [] ∧ (∀ c ∈ s, wordc c = true) ∧ s.length ≤ 32 := by
 unfold okName at h
 simp only [Bool.and_eq_true, decide_eq_true_eq, List.all_eq_true] at h
 refine ⟨fun e => ?_, fun c hc => name_word (h.2 c hc), h.1.2⟩
 subst e
 simp at h
theorem numch_word {c : UInt8} (h : Ar.numch c = true) : wordc c = true := by
 refine wordc_of ?_ ?_ ?_
 ·rintro rfl; exact absurd h (by decide)
 ·intro hm
  unfold markOf at hm
  split at hm
  ·rename_i e; subst e; exact absurd h (by decide)
  ·split at hm
   ·rename_i e; subst e; exact absurd h (by decide)
   ·split at hm
    ·rename_i e; subst e; exact absurd h (by decide)
    ·exact hm rfl
 ·rintro rfl; exact absurd h (by decide)
theorem kind_word (n : Int) (h1 : 1 ≤ n) (h2 : n ≤ 14) : kindL.getD (n - 1).toNat [] ≠ [] ∧ ∀ c ∈ kindL.getD (n - 1).toNat [], wordc c = true := by
 obtain h | h | h | h | h | h | h | h | h | h | h | h | h | h : n = 1 ∨ n = 2 ∨ n = 3 ∨ n = 4 ∨ n = 5 ∨ n = 6 ∨ n = 7 ∨ n = 8 ∨ n = 9 ∨ n = 10 ∨ n = 11 ∨ n = 12 ∨ n = 13 ∨ n = 14 := by omega
 all_goals subst h; decide
theorem field_word (o : Int) (h1 : 5 ≤ o) (h2 : o ≤ 12) : fieldW o ≠ [] ∧ ∀ c ∈ fieldW o, wordc c = true := by
 obtain h | h | h | h | h | h | h | h : o = 5 ∨ o = 6 ∨ o = 7 ∨ o = 8 ∨ o = 9 ∨ o = 10 ∨ o = 11 ∨ o = 12 := by omega
 all_goals subst h; decide
theorem simple_word (o : Int) (h : o = 1 ∨ o = 13 ∨ o = 14 ∨ o = 15 ∨ o = 16 ∨ o = 17) : simpleW o ≠ [] ∧ ∀ c ∈ simpleW o, wordc c = true := by
 obtain h | h | h | h | h | h := h
 all_goals subst h; decide
theorem map_map_tk (o : Option (List Tk)) (A B : List Tk) : (o.map (B ++ ·)).map (A ++ ·) = o.map ((A ++ B) ++ ·) := by
 cases o <;> simp
theorem tkz_leaf {o : Int} {t : Str} {n : Int} {ks : List Cn} (h : treeE (.mk o t n ks) = 0) (h2 : o ≠ 2) (h3 : o ≠ 3) (h4 : o ≠ 4) (r : Str) (hr : Ar.Stop wordc r) : tkz (leafT o t n ++ r) = (tkz r).map (leafTk o t n ++ ·) := by
 rcases tree_shape h with h | h | h | h | h | h | h
 ·obtain ⟨ho, rfl, rfl, rfl⟩ := h
  have e1 : leafT o [] 0 = simpleW o := by unfold leafT; rw [if_neg (by omega), if_neg (by omega), if_neg (by omega), if_neg (by omega)]
  have e2 : leafTk o [] 0 = [⟨1, simpleW o⟩] := by unfold leafTk; rw [if_neg (by omega), if_neg (by omega), if_neg (by omega), if_neg (by omega)]
  obtain ⟨k1, k2⟩ := simple_word o ho
  rw [e1, e2, tkz_word _ r k1 k2 hr]
  rfl
 ·obtain ⟨ho, _⟩ := h; omega
 ·obtain ⟨ho, _⟩ := h; omega
 ·obtain ⟨rfl, rfl, hn1, hn2, rfl⟩ := h
  obtain ⟨k1, k2⟩ := kind_word n hn1 hn2
  show tkz ([107, 105, 110, 100] ++ (32 :: (kindL.getD (n - 1).toNat [] ++ r))) = (tkz r).map ([⟨1, fieldW 5⟩, ⟨1, kindL.getD (n - 1).toNat []⟩] ++ ·)
  rw [tkz_word _ _ (by decide) (by decide) (stop_cons _ rfl), tkz_blank, tkz_word _ r k1 k2 hr]
  cases tkz r <;> rfl
 ·obtain ⟨ho, rfl, rfl, _⟩ := h
  have e1 : leafT o t 0 = fieldW o ++ 32 :: quoteT t := by unfold leafT; rw [if_neg (by omega), if_pos (by omega)]
  have e2 : leafTk o t 0 = [⟨1, fieldW o⟩, ⟨2, t⟩] := by unfold leafTk; rw [if_neg (by omega), if_pos (by omega)]
  obtain ⟨k1, k2⟩ := field_word o (by omega) (by omega)
  rw [e1, e2, List.append_assoc, List.cons_append, tkz_word _ _ k1 k2 (stop_cons _ rfl), tkz_blank, tkz_quote]
  cases tkz r <;> rfl
 ·obtain ⟨rfl, rfl, rfl, hn⟩ := h
  obtain ⟨k1, k2, _⟩ := okName_word hn
  show tkz ([119, 111, 114, 100] ++ (32 :: (t ++ r))) = (tkz r).map ([⟨1, fieldW 9⟩, ⟨1, t⟩] ++ ·)
  rw [tkz_word _ _ (by decide) (by decide) (stop_cons _ rfl), tkz_blank, tkz_word _ r k1 k2 hr]
  cases tkz r <;> rfl
 ·obtain ⟨ho, rfl, hn1, hn2, rfl⟩ := h
  have e1 : leafT o [] n = fieldW o ++ 32 :: Ar.itoa n := by unfold leafT; rw [if_neg (by omega), if_neg (by omega), if_neg (by omega), if_pos ho]
  have e2 : leafTk o [] n = [⟨1, fieldW o⟩, ⟨1, Ar.itoa n⟩] := by unfold leafTk; rw [if_neg (by omega), if_neg (by omega), if_neg (by omega), if_pos ho]
  obtain ⟨k1, k2⟩ := field_word o (by omega) (by omega)
  rw [e1, e2, List.append_assoc, List.cons_append, tkz_word _ _ k1 k2 (stop_cons _ rfl), tkz_blank, tkz_word _ r (Ar.itoa_ne n) (fun c hc => numch_word (Ar.itoa_numch n c hc)) hr]
  cases tkz r <;> rfl
theorem textK_stop (o : Int) : ∀ (ks : List Cn) (r : Str), Ar.Stop wordc r → Ar.Stop wordc (textK o false ks ++ r)
 | [], r, h => h
 | c :: ks, r, h => by
  rw [textK]
  exact stop_cons _ rfl
mutual
theorem tkz_C : ∀ (c : Cn) (r : Str), treeE c = 0 → Ar.Stop wordc r → tkz (textC c ++ r) = (tkz r).map (tkC c ++ ·)
 | .mk o t n ks, r, h, hr => by
  by_cases h23 : o = 2 ∨ o = 3
  ·have hk : treeEL ks = 0 := by
    rcases tree_shape h with h | h | h | h | h | h | h
    ·omega
    ·exact h.2.2.2.2
    all_goals omega
   rw [textC, if_pos h23, tkC, if_pos h23]
   exact tkz_K o (by omega) true ks r hk hr
  ·by_cases h4 : o = 4
   ·have hk : treeEL ks = 0 := by
     rcases tree_shape h with h | h | h | h | h | h | h
     ·omega
     ·exact h.2.2.2.2
     ·obtain ⟨_, _, _, k, rfl, hk⟩ := h
      rw [treeEL, if_neg (fun e => e hk), treeEL]
     all_goals omega
    have h1 : ∃ k, ks = [k] := by
     rcases tree_shape h with h | h | h | h | h | h | h
     ·omega
     ·omega
     ·obtain ⟨_, _, _, k, rfl, hk⟩ := h
      exact ⟨k, rfl⟩
     all_goals omega
    rw [textC, if_neg h23, if_pos h4, tkC, if_neg h23, if_pos h4]
    show tkz ([110, 111, 116] ++ (32 :: (textK 4 true ks ++ r))) = _
    rw [tkz_word [110, 111, 116] _ (by decide) (by decide) (stop_cons _ rfl), tkz_blank]
    obtain ⟨k, rfl⟩ := h1
    have hk1 := (treeEL_cons hk).1
    have : textK 4 true [k] ++ r = (if joint 4 k.op then 40 :: (textC k ++ [41]) else textC k) ++ r := by simp [textK]
    rw [this]
    have : tkK 4 true [k] = wrapTk (joint 4 k.op) (tkC k) := by simp [tkK]
    rw [this]
    cases joint 4 k.op with
    | true =>
     show Option.map _ (tkz (40 :: (textC k ++ [41] ++ r))) = _
     rw [tkz_mark _ _ (by decide), List.append_assoc, tkz_C k ([41] ++ r) hk1 (stop_cons _ rfl)]
     show Option.map _ (Option.map _ (Option.map _ (tkz (41 :: r)))) = _
     rw [tkz_mark _ _ (by decide)]
     unfold wrapTk
     cases tkz r <;> simp [markOf, notW]
    | false =>
     show Option.map _ (tkz (textC k ++ r)) = _
     rw [tkz_C k r hk1 hr]
     unfold wrapTk
     cases tkz r <;> simp [notW]
   ·rw [textC, if_neg h23, if_neg h4, tkC, if_neg h23, if_neg h4]
    exact tkz_leaf h (fun e => h23 (.inl e)) (fun e => h23 (.inr e)) h4 r hr
theorem tkz_K (o : Int) (ho : o = 2 ∨ o = 3) : ∀ (first : Bool) (ks : List Cn) (r : Str), treeEL ks = 0 → Ar.Stop wordc r → tkz (textK o first ks ++ r) = (tkz r).map (tkK o first ks ++ ·)
 | first, [], r, h, hr => by
  rw [textK, tkK]
  show tkz r = _
  cases tkz r <;> rfl
 | first, c :: ks, r, h, hr => by
  obtain ⟨hc, hk⟩ := treeEL_cons h
  have ih := tkz_K o ho false ks r hk hr
  have hst := textK_stop o ks r hr
  have key : tkz ((if joint o c.op then 40 :: (textC c ++ [41]) else textC c) ++ (textK o false ks ++ r)) = (tkz r).map (wrapTk (joint o c.op) (tkC c) ++ tkK o false ks ++ ·) := by
   cases joint o c.op with
   | true =>
    show tkz (40 :: (textC c ++ [41] ++ (textK o false ks ++ r))) = _
    rw [tkz_mark _ _ (by decide), List.append_assoc, tkz_C c ([41] ++ _) hc (stop_cons _ rfl)]
    show Option.map _ (Option.map _ (tkz (41 :: (textK o false ks ++ r)))) = _
    rw [tkz_mark _ _ (by decide), ih]
    unfold wrapTk
    cases tkz r <;> simp [markOf]
   | false =>
    show tkz (textC c ++ (textK o false ks ++ r)) = _
    rw [tkz_C c _ hc hst, ih]
    unfold wrapTk
    cases tkz r <;> simp
  rw [textK, tkK, List.append_assoc, List.append_assoc]
  cases first with
  | true =>
   show tkz ([] ++ _) = _
   rw [List.nil_append, key]
   cases tkz r <;> simp
  | false =>
   show tkz ((32 :: (sepW o ++ [32])) ++ _) = _
   have hw : sepW o ≠ [] ∧ ∀ c ∈ sepW o, wordc c = true := by
    rcases ho with rfl | rfl <;> decide
   rw [List.cons_append, tkz_blank, List.append_assoc, List.singleton_append, tkz_word _ _ hw.1 hw.2 (stop_cons _ rfl)]
   show Option.map _ (tkz (32 :: _)) = _
   rw [tkz_blank, key]
   cases tkz r <;> simp
end
end Pr
/- The text Ud. -/
namespace Pr
theorem sameL_drop {ks ls : List Cn} {k : Nat} {x y : Cn} (h1 : ks[k]? = some x) (h2 : ls[k]? = some y) : sameL (ks.drop k) (ls.drop k) = (same x y && sameL (ks.drop (k + 1)) (ls.drop (k + 1))) := by
 obtain ⟨a1, rfl⟩ := List.getElem?_eq_some_iff.1 h1
 obtain ⟨a2, rfl⟩ := List.getElem?_eq_some_iff.1 h2
 rw [List.drop_eq_getElem_cons a1, List.drop_eq_getElem_cons a2, sameL]
theorem sameL_len : ∀ {ks ls : List Cn}, ks.length ≠ ls.length → sameL ks ls = false
 | [], [], h => absurd rfl h
 | [], _ :: _, _ => rfl
 | _ :: _, [], _ => rfl
 | a :: r, b :: r', h => by
  unfold sameL
  rw [sameL_len (ks := r) (ls := r') (fun e => h (by simp [e])), Bool.and_false]
theorem same_open (a b : Cn) : same a b = (a.op == b.op && a.text == b.text && a.num == b.num && sameL a.kids b.kids) := by cases a; cases b; unfold same; rfl
end Pr
namespace Go.Proofs.YtchkiegehejfmaaGreatDoor
open Go.RowKit Go.Lib
set_option linter.unusedVariables false
set_option linter.unusedSimpArgs false
theorem eqf_any (ok ok' : Nat → Prop) (ks ls : List Pr.Cn) (A B : Option Addr) (ca cb : Nat) (w : World) (hl : ks.length ≤ 1000000) (hA : CnRow w ok A ks) (hB : CnRow w ok' B ls)
  (IH : ∀ x y X Y W, x ∈ ks → CnV W ok X x → CnV W ok' Y y → Calls Tryz.prog 20 #[.agg X, .agg Y] W fun e w' => e = .returned (.bool (Pr.same x y)) ∧ Below W.heap.size W w') :
  Calls Tryz.prog 48 #[.slice A ks.length ca, .slice B ls.length cb, .func (.func 20) #[] #[]] w fun e w' => e = .returned (.bool (Pr.sameL ks ls)) ∧ Below w.heap.size w w' := by
 have HA := hid hA
 have HB0 := hid hB
 have HIH := hid IH
 clear hA hB IH
 by_cases hlen : ks.length = ls.length
 ·have HLEN := hid hlen
  rw [← hlen]
  clear hlen
  obtain ⟨S, hS⟩ : ∃ S, Pr.sameL ks ls = S := ⟨_, rfl⟩
  rw [hS]
  have HS := hid hS
  clear hS
  go_enter Tryz.func48, Tryz.ntmps48
  go_wp2_with fail
  go_loopw [17] (fun ix wr => ∃ k : Nat, k ≤ ks.length ∧ ix = .int .i64 (k : Int) ∧ Pr.sameL (ks.drop k) (ls.drop k) = S ∧ Below w.heap.size w wr) (fun ix _ => ks.length - (RowKit.intOf ix).toNat)
  case atStart => exact ⟨0, Nat.zero_le _, rfl, HS.out, Below.refl _ _⟩
  case round =>
   obtain ⟨k, hk, rfl, hs, hb⟩ := hrel
   have HSS := hid hs
   have HB := hid hb
   have hws := hb.size
   clear hs hb
   by_cases hlt : k < ks.length
   ·have hlt2 : k < ls.length := by have := HLEN.out; omega
    obtain ⟨x, hx⟩ : ∃ x, ks[k]? = some x := ⟨_, List.getElem?_eq_getElem hlt⟩
    obtain ⟨y, hy⟩ : ∃ y, ls[k]? = some y := ⟨_, List.getElem?_eq_getElem hlt2⟩
    obtain ⟨b, off, cs, rfl, hok, hr, hcl, hcv⟩ := (HA.out.below HB.out) k x hx
    obtain ⟨b', off', ds, rfl, hok', hr', hcl', hcv'⟩ := (HB0.out.below HB.out) k y hy
    have HD := hid (Pr.sameL_drop hx hy)
    have HXM := hid (List.mem_of_getElem? hx)
    have HCV := hid hcv
    have HCV' := hid hcv'
    have HR' := hid hr'
    have hbl' := range_lt hr' (by omega)
    have hone := hcv.one
    have hone' := hcv'.one
    have HL2 : Hid ((Tryz.prog.info? 36).map (·.size) = some cs.length) := hid (by rw [size_cond, hcl])
    have HL3 : Hid ((Tryz.prog.info? 36).map (·.size) = some cs.toArray.size) := hid (by rw [size_cond, List.size_toArray, hcl])
    have HSZ : Hid (zCn.size = cs.toArray.size) := hid (by show 4 = cs.toArray.size; rw [List.size_toArray, hcl])
    have HL2' : Hid ((Tryz.prog.info? 36).map (·.size) = some ds.length) := hid (by rw [size_cond, hcl'])
    have HL3' : Hid ((Tryz.prog.info? 36).map (·.size) = some ds.toArray.size) := hid (by rw [size_cond, List.size_toArray, hcl'])
    have HSZ' : Hid (zCn.size = ds.toArray.size) := hid (by show 4 = ds.toArray.size; rw [List.size_toArray, hcl'])
    clear hx hy hcv hcv'
    go_wp2_with (first
     | ((with_reducible refine wpList_load_mid rfl 36 _ rfl b (off + k * 4) ?_ cs _ hr Tryz.underlying36 ?_ HL2.out ?_); rfl; rfl)
     | ((with_reducible refine wpList_store_row' rfl 36 _ _ rfl wr.heap.size cs.toArray ?_ ?_ 36 _ (Blk.new wr 36 _) HL3.out ?_ hone ?_); rfl; rfl; exact HSZ.out; intro w2 hk2 hs2 hbl2; have HN2 : Hid (Below wr.heap.size wr w2) := hid (((Below.refl _ wr).alloc (Nat.le_refl _) (.cells zCn 36)).trans (hbl2 wr.heap.size (Nat.le_refl _))); have hr2 := range_keep HR'.out (HN2.out.block b' hbl'); have HK2 := hid hk2; clear hk2 hbl2 hs2)
     | ((with_reducible refine wpList_load_mid rfl 36 _ rfl b' (off' + k * 4) ?_ ds _ hr2 Tryz.underlying36 ?_ HL2'.out ?_); rfl; rfl)
     | ((with_reducible refine wpList_store_row' rfl 36 _ _ rfl w2.heap.size ds.toArray ?_ ?_ 36 _ (Blk.new w2 36 _) HL3'.out ?_ hone' ?_); rfl; rfl; exact HSZ'.out; intro w3 hk3 hs3 hbl3; have HN3 : Hid (Below w2.heap.size w2 w3) := hid (((Below.refl _ w2).alloc (Nat.le_refl _) (.cells zCn 36)).trans (hbl3 w2.heap.size (Nat.le_refl _))); have HK3 := hid hk3; have HK2' := hid (HK2.out.below HN3.out HK2.out.lt); clear hk3 hbl3 hs3)
     | (refine wpList_load_row rfl 36 _ rfl wr.heap.size rfl 36 cs.toArray (0, 0) _ HK2'.out Tryz.underlying36 rfl HL3.out ?_)
     | (refine wpList_load_row rfl 36 _ rfl w2.heap.size rfl 36 ds.toArray (0, 0) _ HK3.out Tryz.underlying36 rfl HL3'.out ?_))
    have HN := hid (HN2.out.trans (HN3.out.mono HN2.out.size))
    refine (HIH.out x y cs.toArray ds.toArray w3 HXM.out (HCV.out.bel HN.out) (HCV'.out.bel HN.out)).mono ?_
    rintro e w4 ⟨rfl, hb4⟩
    have HB4 := hid (HB.out.trans ((HN.out.trans (hb4.mono HN.out.size)).mono hws))
    clear hb4
    cases hxy : Pr.same x y with
    | true =>
     have HS4 : Hid (Pr.sameL (ks.drop (k + 1)) (ls.drop (k + 1)) = S) := hid (by rw [← HSS.out, HD.out, hxy]; rfl)
     go_wp2_with fail
     go_roundw
     case rel => exact ⟨k + 1, hlt, by go_num, HS4.out, HB4.out⟩
     case measure => simp [RowKit.intOf]; omega
    | false =>
     have HS4 : Hid (S = false) := hid (by rw [← HSS.out, HD.out, hxy]; rfl)
     go_wp2_with fail
     go_ret
     exact ⟨congrArg (fun b => Ending.returned (.bool b)) HS4.out.symm, HB4.out⟩
   ·obtain rfl : k = ks.length := by omega
    have HS4 : Hid (S = true) := hid (by rw [← HSS.out, List.drop_length, HLEN.out, List.drop_length]; rfl)
    go_wp2_with fail
    go_ret
    exact ⟨congrArg (fun b => Ending.returned (.bool b)) HS4.out.symm, HB.out⟩
 ·have hlq : (!((ks.length : Int) == (ls.length : Int))) = true := by rw [beq_eq_false_iff_ne.2 (by omega)]; rfl
  have HS : Hid (Pr.sameL ks ls = false) := hid (Pr.sameL_len hlen)
  have hlq2 : (ks.length == ls.length) = false := beq_eq_false_iff_ne.2 hlen
  clear hlen
  rw [HS.out]
  go_enter Tryz.func48, Tryz.ntmps48
  go_wp2_with fail
  go_ret
  exact ⟨rfl, Below.refl _ _⟩
end Go.Proofs.YtchkiegehejfmaaGreatDoor
/- The text Ue. -/
namespace Go.Proofs.YtchkiegehejfmaaGreatDoor
open Go.RowKit Go.Lib
set_option linter.unusedVariables false
set_option linter.unusedSimpArgs false
theorem str_beq (x y : List UInt8) : ((bstr x).toList == (bstr y).toList) = (x == y) := by rw [Lib.toList_data, Lib.toList_data]; rfl
theorem psame_any : ∀ (m : Nat) (ok ok' : Nat → Prop) (a b : Pr.Cn) (V V' : Array Value) (w : World), Pr.nodes a ≤ m → m ≤ 1000000 → CnV w ok V a → CnV w ok' V' b → Calls Tryz.prog 20 #[.agg V, .agg V'] w fun e w' => e = .returned (.bool (Pr.same a b)) ∧ Below w.heap.size w w'
 | 0, ok, ok', a, b, V, V', w, hm, _, h, h' => absurd hm (by have := Pr.nodes_pos a; omega)
 | m + 1, ok, ok', a, b, V, V', w, hm, hm6, h, h' => by
  have hb2 := ((Below.refl w.heap.size w).alloc (Nat.le_refl _) (.cells V 36)).alloc (by rw [World.size_alloc]; exact Nat.le_succ _) (.cells V' 36)
  have hV := h.bel hb2
  have hV' := h'.bel hb2
  have hne := Pr.nodes_eq a
  have hkl := Pr.kids_nodes a.kids
  obtain ⟨A, ca, rfl, hrow⟩ := hV.open
  obtain ⟨B, cb, rfl, hrow'⟩ := hV'.open
  have hk1 : Blk ((w.alloc (.cells #[.int .i64 a.op, .string (bstr a.text), .int .i64 a.num, .slice A a.kids.length ca] 36)).alloc (.cells #[.int .i64 b.op, .string (bstr b.text), .int .i64 b.num, .slice B b.kids.length cb] 36)) w.heap.size 36 #[.int .i64 a.op, .string (bstr a.text), .int .i64 a.num, .slice A a.kids.length ca] := (Blk.new w 36 _).alloc _
  have hk2 : Blk ((w.alloc (.cells #[.int .i64 a.op, .string (bstr a.text), .int .i64 a.num, .slice A a.kids.length ca] 36)).alloc (.cells #[.int .i64 b.op, .string (bstr b.text), .int .i64 b.num, .slice B b.kids.length cb] 36)) (w.heap.size + 1) 36 #[.int .i64 b.op, .string (bstr b.text), .int .i64 b.num, .slice B b.kids.length cb] := by have := Blk.new (w.alloc (.cells #[.int .i64 a.op, .string (bstr a.text), .int .i64 a.num, .slice A a.kids.length ca] 36)) 36 #[.int .i64 b.op, .string (bstr b.text), .int .i64 b.num, .slice B b.kids.length cb]; rwa [World.size_alloc] at this
  have hso := Pr.same_open a b
  have HB1 := hid hb2
  have HR1 := hid hrow
  have HR2 := hid hrow'
  have hx0 := hk1.cell 0
  have hx1 := hk1.cell 1
  have hx2 := hk1.cell 2
  have hx3 := hk1.cell 3
  have hy0 := hk2.cell 0
  have hy1 := hk2.cell 1
  have hy2 := hk2.cell 2
  have hy3 := hk2.cell 3
  simp only [List.getElem?_toArray, List.getElem?_cons_zero, List.getElem?_cons_succ] at hx0 hx1 hx2 hx3 hy0 hy1 hy2 hy3
  generalize hw1 : (w.alloc (.cells #[.int .i64 a.op, .string (bstr a.text), .int .i64 a.num, .slice A a.kids.length ca] 36)).alloc (.cells #[.int .i64 b.op, .string (bstr b.text), .int .i64 b.num, .slice B b.kids.length cb] 36) = w1 at *
  have hkm : Pr.nodesL a.kids ≤ m := by omega
  have HEF := hid (eqf_any ok ok' a.kids b.kids A B ca cb w1 (by omega) hrow hrow' (fun x y X Y W hx hX hY => psame_any m ok ok' x y X Y W (by obtain ⟨i, hi⟩ := List.mem_iff_getElem?.1 hx; have := Pr.nodes_kid hi; omega) (by omega) hX hY))
  have hst := str_beq a.text b.text
  clear hV hV' h h' hrow hrow' hb2 hne hkl hk1 hk2
  rw [hso]
  clear hso
  generalize a.kids = ks at *
  generalize b.kids = ls at *
  generalize a.op = ao at *
  generalize b.op = bo at *
  generalize a.num = an at *
  generalize b.num = bn at *
  generalize bstr a.text = at_ at *
  generalize bstr b.text = bt at *
  generalize (a.text == b.text) = tt at *
  cases h1 : (ao == bo) with
  | false =>
   go_enter Tryz.func20, Tryz.ntmps20
   go_wp2_with fail
   go_ret
   exact ⟨rfl, HB1.out⟩
  | true =>
   cases tt with
   | false =>
    go_enter Tryz.func20, Tryz.ntmps20
    go_wp2_with fail
    go_ret
    exact ⟨rfl, HB1.out⟩
   | true =>
    cases h3 : (an == bn) with
    | false =>
     go_enter Tryz.func20, Tryz.ntmps20
     go_wp2_with fail
     go_ret
     exact ⟨rfl, HB1.out⟩
    | true =>
     go_enter Tryz.func20, Tryz.ntmps20
     go_wp2_with fail
     refine HEF.out.mono ?_
     rintro e w2 ⟨rfl, hb⟩
     have HB2 := hid (HB1.out.trans (hb.mono HB1.out.size))
     clear hb
     go_wp2_with fail
     go_ret
     exact ⟨rfl, HB2.out⟩
end Go.Proofs.YtchkiegehejfmaaGreatDoor
/- The text Ur. -/
namespace Go.Proofs.YtchkiegehejfmaaGreatDoor
open Go.RowKit Go.Lib
set_option linter.unusedVariables false
set_option linter.unusedSimpArgs false
theorem load_row_u {ops : Array Oper} {rest : List Oper} {o : Oper} {a : Act} {w : World} {Q : Exit → Act → World → Prop} (hw : Region.wanted o (yielded ops a.tmps) = true) (ty : TypeId) (x : Operand) (ho : o.op = .load ty x)
  (g : Nat) (hx : a.eval x = .pointer (some ⟨g, 0, none⟩)) (t : TypeId) (cs : Array Value) (fr : Nat × Nat) (d : TypeDesc) (hd : (match d with | .struct _ | .array _ _ => true | _ => false) = true) (hg : w.heap[g]? = some (.cells cs t fr))
  (hu : Tryz.prog.underlying ty = some d) (hi : (Tryz.prog.info? ty).map (·.size) = some cs.size)
  (h : wpList Tryz.prog ops Q rest (a.put o.dst (.agg cs)) w) : wpList Tryz.prog ops Q (o :: rest) a w :=
 wpList_step fun K hK => by
  rw [if_pos hw]
  exact wp_load_row ty x ho g hx t cs fr d hg hu (by cases d <;> first | rfl | cases hd) hi (hK _ _ h)
theorem cn_always {w : World} {ok : Nat → Prop} : CnV w ok #[.int .i64 1, .string ⟨#[]⟩, .int .i64 0, .slice none 0 0] Pr.always := CnV.make (A := none) (cap := 0) (ks := []) (fun i c h => by cases h)
theorem cn_never {w : World} {ok : Nat → Prop} {g : Nat} (h : Blk w g 36 #[.int .i64 1, .string ⟨#[]⟩, .int .i64 0, .slice none 0 0]) (ho : ok g) : CnV w ok #[.int .i64 4, .string ⟨#[]⟩, .int .i64 0, .slice (some ⟨g, 0, none⟩) 1 1] Pr.never :=
 CnV.make (A := some ⟨g, 0, none⟩) (cap := 1) (ks := [Pr.always]) (fun i c hi => by
  cases i with
  | zero =>
   injection hi with hi
   subst hi
   exact ⟨g, 0, [.int .i64 1, .string ⟨#[]⟩, .int .i64 0, .slice none 0 0], rfl, ho, fun j v hj => by rw [h.cell]; simpa using hj, rfl, cn_always⟩
  | succ i => simp at hi)
theorem never_any (w : World) : Calls Tryz.prog 42 #[] w fun e w' => (∃ X, e = .returned (.agg X) ∧ CnV w' (fun b => w.heap.size ≤ b) X Pr.never) ∧ Below w.heap.size w w' := by
 go_enter Tryz.func42, Tryz.ntmps42
 go_wp2_with fail
 have hk0 := (Blk.new w 36 #[.int .i64 4, .string ⟨#[]⟩, .int .i64 0, .slice (some ⟨w.heap.size + 1, 0, none⟩) 1 1]).alloc (.cells #[.int .i64 1, .string ⟨#[]⟩, .int .i64 0, .slice none 0 0] 36)
 have hk1 := Blk.new (w.alloc (.cells #[.int .i64 4, .string ⟨#[]⟩, .int .i64 0, .slice (some ⟨w.heap.size + 1, 0, none⟩) 1 1] 36)) 36 #[.int .i64 1, .string ⟨#[]⟩, .int .i64 0, .slice none 0 0]
 rw [World.size_alloc] at hk1
 exact bodyPost_ret (v := .agg #[.int .i64 4, .string ⟨#[]⟩, .int .i64 0, .slice (some ⟨w.heap.size + 1, 0, none⟩) 1 1]) (results_cell_row rfl _ _ w.heap.size 36 _ (0, 0) _ rfl hk0 Tryz.underlying36 rfl (by rw [size_cond]; rfl)) rfl ⟨⟨_, rfl, cn_never hk1 (Nat.le_succ _)⟩, ((Below.refl _ w).alloc (Nat.le_refl _) _).alloc (by rw [World.size_alloc]; exact Nat.le_succ _) _⟩
theorem cl_same (ok ok' : Nat → Prop) (y x : Pr.Cn) (Y X : Array Value) (g : Nat) (w : World) (hy : CnV w ok Y y) (hx : CnV w ok' X x) (hk : Blk w g 36 X) (hny : Pr.nodes y ≤ 1000000) (hnx : Pr.nodes x ≤ 1000000) :
  Calls Tryz.prog 84 #[.agg Y, .pointer (some ⟨g, 0, none⟩)] w fun e w' => e = .returned (.bool (Pr.same x y)) ∧ Below w.heap.size w w' := by
 have hb := (Below.refl w.heap.size w).alloc (Nat.le_refl _) (.cells Y 36)
 have HB := hid hb
 have HY := hid (hy.bel hb)
 have HX := hid (hx.bel hb)
 have HK1 := hid (Blk.new w 36 Y)
 have HK2 := hid (hk.below hb hk.lt)
 have HS1 : Hid ((Tryz.prog.info? 36).map (·.size) = some Y.size) := hid (by rw [size_cond, hy.size])
 have HS2 : Hid ((Tryz.prog.info? 36).map (·.size) = some X.size) := hid (by rw [size_cond, hx.size])
 obtain ⟨A, cap, hYe, -⟩ := hy.open
 have hc0 : (w.alloc (.cells Y 36)).cell? ⟨w.heap.size, 0, none⟩ = some (.int .i64 y.op) := by rw [(Blk.new w 36 Y).cell 0, hYe]; rfl
 clear hYe hb hy hx hk
 generalize hw1 : w.alloc (.cells Y 36) = w1 at *
 go_enter Tryz.func84, Tryz.ntmps84
 go_wp2_with (first
  | (refine wpList_load_row rfl 36 _ rfl g rfl 36 X (0, 0) _ HK2.out Tryz.underlying36 rfl HS2.out ?_)
  | (refine wpList_load_row rfl 36 _ rfl w.heap.size rfl 36 Y (0, 0) _ HK1.out Tryz.underlying36 rfl HS1.out ?_))
 refine (psame_any (Pr.nodes x) ok' ok x y X Y w1 (Nat.le_refl _) hnx HX.out HY.out).mono ?_
 rintro e w2 ⟨rfl, hb2⟩
 have HB2 := hid (HB.out.trans (hb2.mono HB.out.size))
 clear hb2
 go_wp2_with fail
 go_ret
 exact ⟨rfl, HB2.out⟩
theorem idx_same (ok ok' : Nat → Prop) (x : Pr.Cn) (X : Array Value) (l : List Pr.Cn) (A : Option Addr) (c g : Nat) (w : World) (hn : l.length ≤ 1000000) (hr : CnRow w ok A l) (hx : CnV w ok' X x) (hk : Blk w g 36 X) (hnx : Pr.nodes x ≤ 1000000) (hnl : ∀ y ∈ l, Pr.nodes y ≤ 1000000) :
  Calls Tryz.prog 100 #[.slice A l.length c, .func (.func 84) #[] #[.pointer (some ⟨g, 0, none⟩)]] w fun e w' => (∃ z : Int, e = .returned (.int .i64 z) ∧ decide (0 ≤ z) = l.any (fun y => Pr.same x y)) ∧ Below w.heap.size w w' := by
 have HR := hid hr
 have HX := hid hx
 have HBK := hid hk
 have HNL := hid hnl
 have hgl := hk.lt
 clear hr hx hk
 go_enter Tryz.func100, Tryz.ntmps100
 go_wp2_with fail
 go_loopw [8] (fun ix wr => ∃ k : Nat, k ≤ l.length ∧ ix = .int .i64 k ∧ Below w.heap.size w wr ∧ ∀ y ∈ l.take k, (Pr.same x y) = false) (fun ix _ => l.length - (RowKit.intOf ix).toNat)
 case atStart => exact ⟨0, Nat.zero_le _, rfl, Below.refl _ _, fun c h => by simp at h⟩
 case round =>
  obtain ⟨k, hk, rfl, hb, hall⟩ := hrel
  have HALL := hid hall
  have HB := hid hb
  have hws := hb.size
  clear hall hb
  by_cases hlt : k < l.length
  ·obtain ⟨y, hy⟩ : ∃ y, l[k]? = some y := ⟨_, List.getElem?_eq_getElem hlt⟩
   obtain ⟨b, off, cs, rfl, hok, hrg, hcl, hcv⟩ := (HR.out.below HB.out) k y hy
   have HXK := hid hy
   have HN0 : Hid ((Pr.same x y) = false → ∀ y ∈ l.take (k + 1), (Pr.same x y) = false) := hid (fun hn z hz => by
    rw [take_one HXK.out] at hz
    rcases List.mem_append.1 hz with hz | hz
    ·exact HALL.out z hz
    ·rw [List.mem_singleton.1 hz]; exact hn)
   have HK := hid (cl_same ok ok' y x cs.toArray X g wr hcv (HX.out.bel HB.out) (HBK.out.below HB.out hgl) (HNL.out y (List.mem_of_getElem? hy)) hnx)
   have HT : Hid ((Pr.same x y) = true → l.any (fun y => Pr.same x y) = true) := hid (fun h => List.any_eq_true.2 ⟨y, List.mem_of_getElem? HXK.out, h⟩)
   have HL2 : Hid ((Tryz.prog.info? 36).map (·.size) = some cs.length) := hid (by rw [size_cond, hcl])
   clear hy hcv
   cases hcq : (Pr.same x y) with
   | true =>
    rw [hcq] at HK
    have HTT := hid (HT.out hcq)
    clear hcq
    go_wp2_with ((with_reducible refine wpList_load_mid rfl 36 _ rfl b (off + k * 4) ?_ cs _ hrg Tryz.underlying36 ?_ HL2.out ?_); rfl; rfl)
    refine HK.out.mono ?_
    rintro e w2 ⟨rfl, hb2⟩
    have HB2 := hid (HB.out.trans (hb2.mono hws))
    clear hb2
    go_wp2_with fail
    go_ret
    exact ⟨⟨(k : Int), rfl, by rw [HTT.out]; exact decide_eq_true (by omega)⟩, HB2.out⟩
   | false =>
    rw [hcq] at HK
    have HN := hid (HN0.out hcq)
    clear hcq
    go_wp2_with ((with_reducible refine wpList_load_mid rfl 36 _ rfl b (off + k * 4) ?_ cs _ hrg Tryz.underlying36 ?_ HL2.out ?_); rfl; rfl)
    refine HK.out.mono ?_
    rintro e w2 ⟨rfl, hb2⟩
    have HB2 := hid (HB.out.trans (hb2.mono hws))
    clear hb2
    go_wp2_with fail
    go_roundw
    case rel => exact ⟨k + 1, by omega, by go_num, HB2.out, HN.out⟩
    case measure => simp [RowKit.intOf]; omega
  ·obtain rfl : k = l.length := by omega
   have HF : Hid (l.any (fun y => Pr.same x y) = false) := hid (by
    rw [List.any_eq_false]
    intro y hz
    rw [HALL.out y (by rw [List.take_length]; exact hz)]
    decide)
   go_wp2_with fail
   go_ret
   exact ⟨⟨-1, rfl, by rw [HF.out]; rfl⟩, HB.out⟩
theorem has_same (ok ok' : Nat → Prop) (x : Pr.Cn) (X : Array Value) (l : List Pr.Cn) (A : Option Addr) (c g : Nat) (w : World) (hn : l.length ≤ 1000000) (hr : CnRow w ok A l) (hx : CnV w ok' X x) (hk : Blk w g 36 X) (hnx : Pr.nodes x ≤ 1000000) (hnl : ∀ y ∈ l, Pr.nodes y ≤ 1000000) :
  Calls Tryz.prog 55 #[.slice A l.length c, .func (.func 84) #[] #[.pointer (some ⟨g, 0, none⟩)]] w fun e w' => e = .returned (.bool (l.any (fun y => Pr.same x y))) ∧ Below w.heap.size w w' := by
 have HI := hid (idx_same ok ok' x X l A c g w hn hr hx hk hnx hnl)
 clear hr hx hk hnx hnl
 go_enter Tryz.func55, Tryz.ntmps55
 go_wp2_with fail
 refine HI.out.mono ?_
 rintro e w2 ⟨⟨z, rfl, hz⟩, hb⟩
 have HB := hid hb
 clear hb
 go_wp2_with fail
 go_ret
 exact ⟨rfl, HB.out⟩
theorem cl_shad (ok ok' : Nat → Prop) (y x : Pr.Cn) (Y X : Array Value) (g : Nat) (w : World) (hy : CnV w ok Y y) (hx : CnV w ok' X x) (hk : Blk w g 36 X) (hny : Pr.nodes y ≤ 1000000) (hnx : Pr.nodes x ≤ 1000000) :
  Calls Tryz.prog 56 #[.agg Y, .pointer (some ⟨g, 0, none⟩)] w fun e w' => e = .returned (.bool (y.op == 1 || Pr.same y x)) ∧ Below w.heap.size w w' := by
 have hb := (Below.refl w.heap.size w).alloc (Nat.le_refl _) (.cells Y 36)
 have HB := hid hb
 have HY := hid (hy.bel hb)
 have HX := hid (hx.bel hb)
 have HK1 := hid (Blk.new w 36 Y)
 have HK2 := hid (hk.below hb hk.lt)
 have HS1 : Hid ((Tryz.prog.info? 36).map (·.size) = some Y.size) := hid (by rw [size_cond, hy.size])
 have HS2 : Hid ((Tryz.prog.info? 36).map (·.size) = some X.size) := hid (by rw [size_cond, hx.size])
 obtain ⟨A, cap, hYe, -⟩ := hy.open
 have hc0 : (w.alloc (.cells Y 36)).cell? ⟨w.heap.size, 0, none⟩ = some (.int .i64 y.op) := by rw [(Blk.new w 36 Y).cell 0, hYe]; rfl
 clear hYe hb hy hx hk
 generalize hw1 : w.alloc (.cells Y 36) = w1 at *
 by_cases ho : y.op = 1
 ·have hoi : (y.op == 1) = true := beq_iff_eq.2 ho
  rw [hoi, Bool.true_or]
  rw [ho] at hc0
  clear hoi ho
  go_enter Tryz.func56, Tryz.ntmps56
  go_wp2_with fail
  go_ret
  exact ⟨rfl, HB.out⟩
 ·have hoi : (y.op == 1) = false := beq_eq_false_iff_ne.2 ho
  rw [hoi, Bool.false_or]
  generalize y.op = yo at *
  clear ho
  go_enter Tryz.func56, Tryz.ntmps56
  go_wp2_with (first
   | (refine load_row_u (by simp only [hoi]; rfl) 36 _ rfl g rfl 36 X (0, 0) _ rfl HK2.out Tryz.underlying36 HS2.out ?_)
   | (refine load_row_u (by simp only [hoi]; rfl) 36 _ rfl w.heap.size rfl 36 Y (0, 0) _ rfl HK1.out Tryz.underlying36 HS1.out ?_))
  refine (psame_any (Pr.nodes y) ok ok' y x Y X w1 (Nat.le_refl _) hny HY.out HX.out).mono ?_
  rintro e w2 ⟨rfl, hb2⟩
  have HB2 := hid (HB.out.trans (hb2.mono HB.out.size))
  clear hb2
  go_wp2_with fail
  go_ret
  exact ⟨rfl, HB2.out⟩
theorem idx_shad (ok ok' : Nat → Prop) (x : Pr.Cn) (X : Array Value) (l : List Pr.Cn) (A : Option Addr) (c g : Nat) (w : World) (hn : l.length ≤ 1000000) (hr : CnRow w ok A l) (hx : CnV w ok' X x) (hk : Blk w g 36 X) (hnx : Pr.nodes x ≤ 1000000) (hnl : ∀ y ∈ l, Pr.nodes y ≤ 1000000) :
  Calls Tryz.prog 100 #[.slice A l.length c, .func (.func 56) #[] #[.pointer (some ⟨g, 0, none⟩)]] w fun e w' => (∃ z : Int, e = .returned (.int .i64 z) ∧ decide (0 ≤ z) = l.any (fun y => y.op == 1 || Pr.same y x)) ∧ Below w.heap.size w w' := by
 have HR := hid hr
 have HX := hid hx
 have HBK := hid hk
 have HNL := hid hnl
 have hgl := hk.lt
 clear hr hx hk
 go_enter Tryz.func100, Tryz.ntmps100
 go_wp2_with fail
 go_loopw [8] (fun ix wr => ∃ k : Nat, k ≤ l.length ∧ ix = .int .i64 k ∧ Below w.heap.size w wr ∧ ∀ y ∈ l.take k, (y.op == 1 || Pr.same y x) = false) (fun ix _ => l.length - (RowKit.intOf ix).toNat)
 case atStart => exact ⟨0, Nat.zero_le _, rfl, Below.refl _ _, fun c h => by simp at h⟩
 case round =>
  obtain ⟨k, hk, rfl, hb, hall⟩ := hrel
  have HALL := hid hall
  have HB := hid hb
  have hws := hb.size
  clear hall hb
  by_cases hlt : k < l.length
  ·obtain ⟨y, hy⟩ : ∃ y, l[k]? = some y := ⟨_, List.getElem?_eq_getElem hlt⟩
   obtain ⟨b, off, cs, rfl, hok, hrg, hcl, hcv⟩ := (HR.out.below HB.out) k y hy
   have HXK := hid hy
   have HN0 : Hid ((y.op == 1 || Pr.same y x) = false → ∀ y ∈ l.take (k + 1), (y.op == 1 || Pr.same y x) = false) := hid (fun hn z hz => by
    rw [take_one HXK.out] at hz
    rcases List.mem_append.1 hz with hz | hz
    ·exact HALL.out z hz
    ·rw [List.mem_singleton.1 hz]; exact hn)
   have HK := hid (cl_shad ok ok' y x cs.toArray X g wr hcv (HX.out.bel HB.out) (HBK.out.below HB.out hgl) (HNL.out y (List.mem_of_getElem? hy)) hnx)
   have HT : Hid ((y.op == 1 || Pr.same y x) = true → l.any (fun y => y.op == 1 || Pr.same y x) = true) := hid (fun h => List.any_eq_true.2 ⟨y, List.mem_of_getElem? HXK.out, h⟩)
   have HL2 : Hid ((Tryz.prog.info? 36).map (·.size) = some cs.length) := hid (by rw [size_cond, hcl])
   clear hy hcv
   cases hcq : (y.op == 1 || Pr.same y x) with
   | true =>
    rw [hcq] at HK
    have HTT := hid (HT.out hcq)
    clear hcq
    go_wp2_with ((with_reducible refine wpList_load_mid rfl 36 _ rfl b (off + k * 4) ?_ cs _ hrg Tryz.underlying36 ?_ HL2.out ?_); rfl; rfl)
    refine HK.out.mono ?_
    rintro e w2 ⟨rfl, hb2⟩
    have HB2 := hid (HB.out.trans (hb2.mono hws))
    clear hb2
    go_wp2_with fail
    go_ret
    exact ⟨⟨(k : Int), rfl, by rw [HTT.out]; exact decide_eq_true (by omega)⟩, HB2.out⟩
   | false =>
    rw [hcq] at HK
    have HN := hid (HN0.out hcq)
    clear hcq
    go_wp2_with ((with_reducible refine wpList_load_mid rfl 36 _ rfl b (off + k * 4) ?_ cs _ hrg Tryz.underlying36 ?_ HL2.out ?_); rfl; rfl)
    refine HK.out.mono ?_
    rintro e w2 ⟨rfl, hb2⟩
    have HB2 := hid (HB.out.trans (hb2.mono hws))
    clear hb2
    go_wp2_with fail
    go_roundw
    case rel => exact ⟨k + 1, by omega, by go_num, HB2.out, HN.out⟩
    case measure => simp [RowKit.intOf]; omega
  ·obtain rfl : k = l.length := by omega
   have HF : Hid (l.any (fun y => y.op == 1 || Pr.same y x) = false) := hid (by
    rw [List.any_eq_false]
    intro y hz
    rw [HALL.out y (by rw [List.take_length]; exact hz)]
    decide)
   go_wp2_with fail
   go_ret
   exact ⟨⟨-1, rfl, by rw [HF.out]; rfl⟩, HB.out⟩
theorem has_shad (ok ok' : Nat → Prop) (x : Pr.Cn) (X : Array Value) (l : List Pr.Cn) (A : Option Addr) (c g : Nat) (w : World) (hn : l.length ≤ 1000000) (hr : CnRow w ok A l) (hx : CnV w ok' X x) (hk : Blk w g 36 X) (hnx : Pr.nodes x ≤ 1000000) (hnl : ∀ y ∈ l, Pr.nodes y ≤ 1000000) :
  Calls Tryz.prog 55 #[.slice A l.length c, .func (.func 56) #[] #[.pointer (some ⟨g, 0, none⟩)]] w fun e w' => e = .returned (.bool (l.any (fun y => y.op == 1 || Pr.same y x))) ∧ Below w.heap.size w w' := by
 have HI := hid (idx_shad ok ok' x X l A c g w hn hr hx hk hnx hnl)
 clear hr hx hk hnx hnl
 go_enter Tryz.func55, Tryz.ntmps55
 go_wp2_with fail
 refine HI.out.mono ?_
 rintro e w2 ⟨⟨z, rfl, hz⟩, hb⟩
 have HB := hid hb
 clear hb
 go_wp2_with fail
 go_ret
 exact ⟨rfl, HB.out⟩
end Go.Proofs.YtchkiegehejfmaaGreatDoor
