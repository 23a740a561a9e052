/- The texts Ya, W0, Ud of this proof, one behind the other. -/
import Derived.WalkLawsBesides
import Derived.Test.YtchkiegehejfmaaGreatDoorMsah
import Derived.Test.YtchkiegehejfmaaGreatDoorMsai
import Derived.Test.YtchkiegehejfmaaGreatDoorMsac
import Derived.Test.YtchkiegehejfmaaGreatDoorMsag
set_option linter.unusedSimpArgs false
set_option maxHeartbeats 16000000
set_option maxRecDepth 100000
set_option linter.unusedVariables false
namespace Go.Proofs.YtchkiegehejfmaaGreatDoor
open Go.RowKit Go.Lib
theorem Cl (s : ByteArray) (k : Nat) (h : k < s.size) : s.data.toList.drop k = s[k] :: s.data.toList.drop (k + 1) := by
 obtain ⟨h1, h2⟩ := List.getElem?_eq_some_iff.1 (AN s k h);rw [← h2];exact List.drop_eq_getElem_cons h1
theorem Ci (s : ByteArray) (k : Nat) (h : s.size ≤ k) : s.data.toList.drop k = [] := List.drop_of_length_le (by rw [← Am]; exact h)
abbrev brk : List PanicEntry := [{ v := .iface 82 (.agg #[]), recovered := false }]
def QuA (S : ByteArray) (e : Ending) : Option (List UInt8 × List UInt8) → Prop
 | none => e = .panicked brk
 | some (t, q) => ∃ k, k ≤ S.size ∧ q = S.data.toList.drop k ∧ e = .returned (.tuple #[.string (bstr t), .int .i64 (k : Int)])
theorem QuA.bad {S : ByteArray} {x : Option (List UInt8 × List UInt8)} (h : none = x) : QuA S (.panicked brk) x := by subst h; exact rfl
theorem QuA.good {S : ByteArray} {k : Nat} {t : List UInt8} {x : Option (List UInt8 × List UInt8)} (hk : k ≤ S.size) (h : some (t, S.data.toList.drop k) = x) : QuA S (.returned (.tuple #[.string (bstr t), .int .i64 (k : Int)])) x := by subst h; exact ⟨k, hk, rfl, rfl⟩
theorem QuA.good1 {S : ByteArray} {k : Nat} {t : List UInt8} {x : Option (List UInt8 × List UInt8)} (hk : k + 1 ≤ S.size) (h : some (t, S.data.toList.drop (k + 1)) = x) : QuA S (.returned (.tuple #[.string (bstr t), .int .i64 ((k : Int) + 1)])) x := QuA.good hk h
theorem D3 (acc : List UInt8) : Pr.quoteP acc [] = none := by unfold Pr.quoteP; rfl
theorem D0 {c : UInt8} (acc r : List UInt8) (h : c = 34) : Pr.quoteP acc (c :: r) = some (acc, r) := by unfold Pr.quoteP; rw [if_pos h]
theorem Ek {c : UInt8} (acc r : List UInt8) (h : c ≠ 34) (h2 : c ≠ 92) : Pr.quoteP acc (c :: r) = Pr.quoteP (acc ++ [c]) r := by conv => lhs; unfold Pr.quoteP; rw [if_neg h, if_neg h2]
theorem Da {c : UInt8} (acc : List UInt8) (h : c = 92) : Pr.quoteP acc [c] = none := by subst h; unfold Pr.quoteP; rfl
theorem Cd {c d : UInt8} (acc r : List UInt8) (h : c = 92) (h2 : d = 34 ∨ d = 92) : Pr.quoteP acc (c :: d :: r) = Pr.quoteP (acc ++ [d]) r := by
 subst h
 conv => lhs; unfold Pr.quoteP
 rw [if_neg (by decide), if_pos rfl];exact if_pos h2
theorem Dh {c d : UInt8} (acc r : List UInt8) (h : c = 92) (h2 : ¬ (d = 34 ∨ d = 92)) : Pr.quoteP acc (c :: d :: r) = none := by
 subst h
 conv => lhs; unfold Pr.quoteP
 rw [if_neg (by decide), if_pos rfl];exact if_neg h2
theorem u8_eq {c d : UInt8} {n : Int} (hn : (d.toNat : Int) = n) (h : c = d) : ((c.toNat : Int) == n) = true := by subst h; rw [beq_iff_eq]; exact hn
theorem Bh {c d : UInt8} {n : Int} (hn : (d.toNat : Int) = n) (h : c ≠ d) : ((c.toNat : Int) != n) = true := by rw [bne, u8_ne hn h]; rfl
theorem Bu {c d : UInt8} {n : Int} (hn : (d.toNat : Int) = n) (h : c = d) : ((c.toNat : Int) != n) = false := by rw [bne, u8_eq hn h]; rfl
theorem Fj (S : ByteArray) (i : Nat) (w : World) (hs : S.size ≤ 1000000) (hi : i ≤ S.size) :
  Calls Tryz.prog 109 #[.string S, .int .i64 (i : Int)] w fun e w' => QuA S e (Pr.quoteP [] (S.data.toList.drop i)) ∧ Below w.heap.size w w' := by
 have HDA : Hid (∀ k (h : k < S.size), S.data.toList.drop k = S[k] :: S.data.toList.drop (k + 1)) := hid (Cl S);have HDE : Hid (∀ k, S.size ≤ k → S.data.toList.drop k = []) := hid (Ci S);obtain ⟨X, hX⟩ : ∃ X, Pr.quoteP [] (S.data.toList.drop i) = X := ⟨_, rfl⟩;have HX := hid hX;rw [hX];clear hX;go_enter Tryz.func109, Tryz.ntmps109;go_wp2_with fail
 go_loopw [1, 6] (fun ix b wr => ∃ (k : Nat) (ol : List UInt8), k ≤ S.size ∧ ix = .int .i64 k ∧ OwnB w.heap.size wr b ol ∧ Hid (Pr.quoteP ol (S.data.toList.drop k) = X) ∧ ol.length ≤ k ∧ Below w.heap.size w wr) (fun ix _ _ => S.size - (RowKit.intOf ix).toNat)
 case atStart => exact ⟨i, [], hi, rfl, FC _ _ _, HX, by simp, Below.refl _ _⟩
 case round =>
  obtain ⟨k, ol, hk, rfl, ho, hrl, hol, hb⟩ := hrel;have HO := hid ho;have HB := hid hb;have hbs := hb.size;obtain ⟨A, cap, rfl, -⟩ := AU ho;clear ho hb;by_cases hlt : k < S.size
  ·have hdl := HDA.out k hlt;have hc2 := (S[k]'hlt).toNat_lt;by_cases h34 : S[k]'hlt = 34
   ·have hy := Bu (n := 34) rfl h34;have HE : Hid (some (ol, S.data.toList.drop (k + 1)) = X) := hid (by rw [← hrl.out, hdl, D0 _ _ h34]);have hcv := Dg HO.out;clear h34 hdl;go_wp2_with fail
    go_ret2
    exact ⟨QuA.good1 (by omega) HE.out, HB.out⟩
   ·have hy := Bh (n := 34) rfl h34;by_cases h92 : S[k]'hlt = 92
    ·have hx := u8_eq (n := 92) rfl h92;by_cases hk1 : k + 1 < S.size
     ·have hdl2 := HDA.out (k + 1) hk1;have hd2 := (S[k + 1]'hk1).toNat_lt;by_cases hd : S[k + 1]'hk1 = 34
      ·have hu := Bu (n := 34) rfl hd;have HT : Hid (Pr.quoteP (ol ++ [S[k + 1]'hk1]) (S.data.toList.drop (k + 2)) = X) := hid (by rw [← hrl.out, hdl, hdl2, Cd _ _ h92 (.inl hd)]);clear hdl hdl2 h34 h92 hd;go_wp2_with (at_builtin; refine BJ rfl _ _ rfl wr [S[k + 1]'hk1] (.slice A ol.length cap) ol w.heap.size rfl HO.out rfl hbs (by simp; omega) ?_; intro v2 w3 ho3 hg3 hb3)
       go_roundw
       case rel => exact ⟨k + 2, ol ++ [S[k + 1]'hk1], by omega, by go_num, ho3, HT, by rw [List.length_append]; simp; omega, hb3 _ HB.out⟩
       case measure => simp [RowKit.intOf]; omega
      ·have hu := Bh (n := 34) rfl hd;by_cases hd9 : S[k + 1]'hk1 = 92
       ·have hv := Bu (n := 92) rfl hd9;have HT : Hid (Pr.quoteP (ol ++ [S[k + 1]'hk1]) (S.data.toList.drop (k + 2)) = X) := hid (by rw [← hrl.out, hdl, hdl2, Cd _ _ h92 (.inr hd9)]);clear hdl hdl2 h34 h92 hd hd9;go_wp2_with (at_builtin; refine BJ rfl _ _ rfl wr [S[k + 1]'hk1] (.slice A ol.length cap) ol w.heap.size rfl HO.out rfl hbs (by simp; omega) ?_; intro v2 w3 ho3 hg3 hb3)
        go_roundw
        case rel => exact ⟨k + 2, ol ++ [S[k + 1]'hk1], by omega, by go_num, ho3, HT, by rw [List.length_append]; simp; omega, hb3 _ HB.out⟩
        case measure => simp [RowKit.intOf]; omega
       ·have hv := Bh (n := 92) rfl hd9;have HE : Hid (none = X) := hid (by rw [← hrl.out, hdl, hdl2, Dh _ _ h92 (by simp [hd, hd9])]);clear hdl hdl2 h34 h92 hd hd9;go_wp2_with fail;exact ⟨rfl, QuA.bad HE.out, HB.out⟩
     ·have HE : Hid (none = X) := hid (by rw [← hrl.out, hdl, HDE.out (k + 1) (by omega), Da _ h92]);clear hdl h34 h92;go_wp2_with fail;exact ⟨rfl, QuA.bad HE.out, HB.out⟩
    ·have hx := u8_ne (n := 92) rfl h92;have HT : Hid (Pr.quoteP (ol ++ [S[k]'hlt]) (S.data.toList.drop (k + 1)) = X) := hid (by rw [← hrl.out, hdl, Ek _ _ h34 h92]);clear hdl h34 h92;go_wp2_with (at_builtin; refine BJ rfl _ _ rfl wr [S[k]'hlt] (.slice A ol.length cap) ol w.heap.size rfl HO.out rfl hbs (by simp; omega) ?_; intro v2 w3 ho3 hg3 hb3)
     go_roundw
     case rel => exact ⟨k + 1, ol ++ [S[k]'hlt], by omega, by go_num, ho3, HT, by rw [List.length_append]; simp; omega, hb3 _ HB.out⟩
     case measure => simp [RowKit.intOf]; omega
  ·have HE : Hid (none = X) := hid (by rw [← hrl.out, HDE.out k (by omega), D3]);go_wp2_with fail;exact ⟨rfl, QuA.bad HE.out, HB.out⟩
end Go.Proofs.YtchkiegehejfmaaGreatDoor
namespace Pr
def escC (c : UInt8) : Str := if c = 34 ∨ c = 92 then [92, c] else [c]
def quoteT (s : Str) : Str := 34 :: (s.flatMap escC ++ [34])
def joint (o k : Int) : Bool := k == 3 || (k == 2 && o != 3)
def sepW (o : Int) : Str := if o = 2 then andW else if o = 3 then orW else []
def leafT (o : Int) (t : Str) (n : Int) : Str :=
 if o = 5 then [107, 105, 110, 100, 32] ++ kindL.getD (n - 1).toNat []
 else if o = 6 ∨ o = 7 ∨ o = 8 then fieldW o ++ 32 :: quoteT t
 else if o = 9 then [119, 111, 114, 100, 32] ++ t
 else if o = 10 ∨ o = 11 ∨ o = 12 then fieldW o ++ 32 :: Ar.itoa n
 else simpleW o
mutual
def textC : Cn → Str
 | .mk o t n ks => if o = 2 ∨ o = 3 then textK o true ks else if o = 4 then [110, 111, 116, 32] ++ textK 4 true ks else leafT o t n
def textK (o : Int) (first : Bool) : List Cn → Str
 | [] => []
 | c :: r => (if first then [] else 32 :: (sepW o ++ [32])) ++ ((if joint o c.op then 40 :: (textC c ++ [41]) else textC c) ++ textK o false r)
end
def joinT : List Str → Str
 | [] => []
 | a :: r => a ++ r.flatMap fun b => 44 :: 32 :: b
def ruleT (x : Rl) : Str := [114, 117, 108, 101, 32] ++ (x.name ++ ([32, 119, 104, 101, 110, 32] ++ (textC x.wh ++ ([32, 100, 111, 32] ++ joinT x.acts))))
def printT (l : List Rl) : Str := l.flatMap fun x => ruleT x ++ [10]
def printP (l : List Rl) : Str × Int := if checkE l ≠ 0 then ([], checkE l) else if 20000 < (printT l).length then ([], 7) else (printT l, 0)
def commentP (s : Str) : Bool := match s.dropWhile (· == 32) with
 | [] => true
 | c :: _ => c == 35
def parseL : Nat → List Rl → List Str → List Rl × Nat
 | _, acc, [] => (acc, 0)
 | i, acc, t :: r => if commentP t then parseL (i + 1) acc r else match lineP t with
  | none => ([], i + 1)
  | some x => parseL (i + 1) (acc ++ [x]) r
def parseP (s : Str) : List Rl × Int × Int := if 20000 < s.length then ([], 0, 7) else
 if (parseL 0 [] (Ar.lines s)).2 ≠ 0 then ([], ((parseL 0 [] (Ar.lines s)).2 : Int), 10)
 else if checkE (parseL 0 [] (Ar.lines s)).1 ≠ 0 then ([], 0, checkE (parseL 0 [] (Ar.lines s)).1)
 else ((parseL 0 [] (Ar.lines s)).1, 0, 0)
theorem wordc_of {c : UInt8} (h1 : c ≠ 32) (h2 : ¬ markOf c ≠ 0) (h3 : c ≠ 34) : wordc c = true := by
 unfold wordc;have h2' : markOf c = 0 := Classical.not_not.1 h2;simp [h1, h2', h3]
theorem quoteP_len : ∀ (n : Nat) (r acc t q : Str), r.length ≤ n → quoteP acc r = some (t, q) → q.length < r.length
 | _, [], acc, t, q, _, h => by simp [quoteP] at h
 | 0, c :: r, acc, t, q, hn, h => by simp at hn
 | n + 1, c :: r, acc, t, q, hn, h => by
  rw [List.length_cons] at hn;unfold quoteP at h;split at h
  ·injection h with h; injection h with h1 h2; subst h2; simp
  ·split at h
   ·cases r with
    | nil => cases h
    | cons d r =>
     simp only at h;rw [List.length_cons] at hn;split at h
     ·have := quoteP_len n r _ t q (by omega) h;simp; omega
     ·cases h
   ·have := quoteP_len n r _ t q (by omega) h;simp; omega
theorem dropWhile_le {p : UInt8 → Bool} : ∀ s : Str, (s.dropWhile p).length ≤ s.length
 | [] => by simp
 | c :: r => by
  rw [List.dropWhile_cons];split
  ·have := dropWhile_le (p := p) r; simp; omega
  ·simp
theorem A7 : ∀ (n m : Nat) (acc : List Tk) (s : Str), s.length < n → s.length < m → toks n acc s = toks m acc s
 | 0, _, _, _, h, _ => by omega
 | _ + 1, 0, _, _, _, h => by omega
 | n + 1, m + 1, acc, [], _, _ => rfl
 | n + 1, m + 1, acc, c :: r, h1, h2 => by
  rw [List.length_cons] at h1 h2;rw [toks, toks];split
  ·exact A7 n m _ _ (by omega) (by omega)
  ·rename_i g1;split
   ·exact A7 n m _ _ (by omega) (by omega)
   ·rename_i g2;split
    ·cases hq : quoteP [] r with
     | none => rfl
     | some tq =>
      obtain ⟨t, q⟩ := tq;have := quoteP_len _ r _ _ _ (Nat.le_refl _) hq;exact A7 n m _ _ (by omega) (by omega)
    ·rename_i g3;have hw := wordc_of g1 g2 g3;have hd : (c :: r).dropWhile wordc = r.dropWhile wordc := by rw [List.dropWhile_cons, if_pos hw]
     rw [hd];have := dropWhile_le (p := wordc) r;exact A7 n m _ _ (by omega) (by omega)
theorem AZ : ∀ (n : Nat) (acc : List Tk) (s : Str), toks n acc s = (toks n [] s).map (acc ++ ·)
 | 0, acc, s => rfl
 | n + 1, acc, [] => by simp [toks]
 | n + 1, acc, c :: r => by
  rw [toks, toks];split
  ·exact AZ n acc r
  ·split
   ·rw [AZ n (acc ++ _), AZ n ([] ++ _)];cases toks n [] r <;> simp
   ·split
    ·cases quoteP [] r with
     | none => rfl
     | some tq =>
      obtain ⟨t, q⟩ := tq;show toks n (acc ++ _) q = (toks n ([] ++ _) q).map _;rw [AZ n (acc ++ _), AZ n ([] ++ _)];cases toks n [] q <;> simp
    ·rw [AZ n (acc ++ _), AZ n ([] ++ _)];cases toks n [] ((c :: r).dropWhile wordc) <;> simp
def tkz (s : Str) : Option (List Tk) := toks (s.length + 1) [] s
theorem Ho : tkz [] = some [] := rfl
theorem tkz_blank (r : Str) : tkz (32 :: r) = tkz r := by
 unfold tkz;rw [toks, if_pos rfl];exact A7 _ _ _ _ (by simp) (by simp)
theorem tkz_mark (c : UInt8) (r : Str) (h : markOf c ≠ 0) : tkz (c :: r) = (tkz r).map (⟨markOf c, []⟩ :: ·) := by
 have h1 : c ≠ 32 := by rintro rfl; exact h rfl
 unfold tkz;rw [toks, if_neg h1, if_pos h, AZ];rw [A7 _ (r.length + 1) [] r (by simp) (by simp)];rfl
end Pr
namespace Pr
theorem sameL_drop {ks ls : List Cn} {k : Nat} {x y : Cn} (h1 : ks[k]? = some x) (h2 : ls[k]? = some y) : sameL (ks.drop k) (ls.drop k) = (same x y && sameL (ks.drop (k + 1)) (ls.drop (k + 1))) := by
 obtain ⟨a1, rfl⟩ := List.getElem?_eq_some_iff.1 h1;obtain ⟨a2, rfl⟩ := List.getElem?_eq_some_iff.1 h2;rw [List.drop_eq_getElem_cons a1, List.drop_eq_getElem_cons a2, sameL]
theorem sameL_len : ∀ {ks ls : List Cn}, ks.length ≠ ls.length → sameL ks ls = false
 | [], [], h => absurd rfl h
 | [], _ :: _, _ => rfl
 | _ :: _, [], _ => rfl
 | a :: r, b :: r', h => by
  unfold sameL;rw [sameL_len (ks := r) (ls := r') (fun e => h (by simp [e])), Bool.and_false]
theorem same_open (a b : Cn) : same a b = (a.op == b.op && a.text == b.text && a.num == b.num && sameL a.kids b.kids) := by cases a; cases b; unfold same; rfl
end Pr
namespace Go.Proofs.YtchkiegehejfmaaGreatDoor
open Go.RowKit Go.Lib
theorem Hy (ok ok' : Nat → Prop) (ks ls : List Pr.Cn) (A B : Option Addr) (ca cb : Nat) (w : World) (hl : ks.length ≤ 1000000) (hA : CnRow w ok A ks) (hB : CnRow w ok' B ls)
  (IH : ∀ x y X Y W, x ∈ ks → CnV W ok X x → CnV W ok' Y y → Calls Tryz.prog 20 #[.agg X, .agg Y] W fun e w' => e = .returned (.bool (Pr.same x y)) ∧ Below W.heap.size W w') :
  Calls Tryz.prog 48 #[.slice A ks.length ca, .slice B ls.length cb, .func (.func 20) #[] #[]] w fun e w' => e = .returned (.bool (Pr.sameL ks ls)) ∧ Below w.heap.size w w' := by
 have HA := hid hA;have HB0 := hid hB;have HIH := hid IH;clear hA hB IH;by_cases hlen : ks.length = ls.length
 ·have HLEN := hid hlen;rw [← hlen];clear hlen;obtain ⟨S, hS⟩ : ∃ S, Pr.sameL ks ls = S := ⟨_, rfl⟩;rw [hS];have HS := hid hS;clear hS;go_enter Tryz.func48, Tryz.ntmps48;go_wp2_with fail
  go_loopw [17] (fun ix wr => ∃ k : Nat, k ≤ ks.length ∧ ix = .int .i64 (k : Int) ∧ Pr.sameL (ks.drop k) (ls.drop k) = S ∧ Below w.heap.size w wr) (fun ix _ => ks.length - (RowKit.intOf ix).toNat)
  case atStart => exact ⟨0, Nat.zero_le _, rfl, HS.out, Below.refl _ _⟩
  case round =>
   obtain ⟨k, hk, rfl, hs, hb⟩ := hrel;have HSS := hid hs;have HB := hid hb;have hws := hb.size;clear hs hb;by_cases hlt : k < ks.length
   ·have hlt2 : k < ls.length := by have := HLEN.out; omega
    obtain ⟨x, hx⟩ : ∃ x, ks[k]? = some x := ⟨_, List.getElem?_eq_getElem hlt⟩;obtain ⟨y, hy⟩ : ∃ y, ls[k]? = some y := ⟨_, List.getElem?_eq_getElem hlt2⟩;obtain ⟨b, off, cs, rfl, hok, hr, hcl, hcv⟩ := (HA.out.below HB.out) k x hx;obtain ⟨b', off', ds, rfl, hok', hr', hcl', hcv'⟩ := (HB0.out.below HB.out) k y hy;have HD := hid (Pr.sameL_drop hx hy);have HXM := hid (List.mem_of_getElem? hx);have HCV := hid hcv;have HCV' := hid hcv';have HR' := hid hr';have hbl' := AL hr' (by omega);have hone := hcv.one;have hone' := hcv'.one;have HL2 : Hid ((Tryz.prog.info? 36).map (·.size) = some cs.length) := hid (by rw [Aa, hcl]);have HL3 : Hid ((Tryz.prog.info? 36).map (·.size) = some cs.toArray.size) := hid (by rw [Aa, List.size_toArray, hcl]);have HSZ : Hid (zCn.size = cs.toArray.size) := hid (by show 4 = cs.toArray.size; rw [List.size_toArray, hcl]);have HL2' : Hid ((Tryz.prog.info? 36).map (·.size) = some ds.length) := hid (by rw [Aa, hcl']);have HL3' : Hid ((Tryz.prog.info? 36).map (·.size) = some ds.toArray.size) := hid (by rw [Aa, List.size_toArray, hcl']);have HSZ' : Hid (zCn.size = ds.toArray.size) := hid (by show 4 = ds.toArray.size; rw [List.size_toArray, hcl']);clear hx hy hcv hcv'
    go_wp2_with (first
     | ((with_reducible refine wpList_load_mid rfl 36 _ rfl b (off + k * 4) ?_ cs _ hr Tryz.underlying36 ?_ HL2.out ?_); rfl; rfl)
     | ((with_reducible refine Ah rfl 36 _ _ rfl wr.heap.size cs.toArray ?_ ?_ 36 _ (Blk.new wr 36 _) HL3.out ?_ hone ?_); rfl; rfl; exact HSZ.out; intro w2 hk2 hs2 hbl2; have HN2 : Hid (Below wr.heap.size wr w2) := hid (((Below.refl _ wr).alloc (Nat.le_refl _) (.cells zCn 36)).trans (hbl2 wr.heap.size (Nat.le_refl _))); have hr2 := Aw HR'.out (HN2.out.block b' hbl'); have HK2 := hid hk2; clear hk2 hbl2 hs2)
     | ((with_reducible refine wpList_load_mid rfl 36 _ rfl b' (off' + k * 4) ?_ ds _ hr2 Tryz.underlying36 ?_ HL2'.out ?_); rfl; rfl)
     | ((with_reducible refine Ah rfl 36 _ _ rfl w2.heap.size ds.toArray ?_ ?_ 36 _ (Blk.new w2 36 _) HL3'.out ?_ hone' ?_); rfl; rfl; exact HSZ'.out; intro w3 hk3 hs3 hbl3; have HN3 : Hid (Below w2.heap.size w2 w3) := hid (((Below.refl _ w2).alloc (Nat.le_refl _) (.cells zCn 36)).trans (hbl3 w2.heap.size (Nat.le_refl _))); have HK3 := hid hk3; have HK2' := hid (HK2.out.below HN3.out HK2.out.lt); clear hk3 hbl3 hs3)
     | (refine wpList_load_row rfl 36 _ rfl wr.heap.size rfl 36 cs.toArray (0, 0) _ HK2'.out Tryz.underlying36 rfl HL3.out ?_)
     | (refine wpList_load_row rfl 36 _ rfl w2.heap.size rfl 36 ds.toArray (0, 0) _ HK3.out Tryz.underlying36 rfl HL3'.out ?_))
    have HN := hid (HN2.out.trans (HN3.out.mono HN2.out.size));refine (HIH.out x y cs.toArray ds.toArray w3 HXM.out (HCV.out.bel HN.out) (HCV'.out.bel HN.out)).mono ?_;rintro e w4 ⟨rfl, hb4⟩;have HB4 := hid (HB.out.trans ((HN.out.trans (hb4.mono HN.out.size)).mono hws));clear hb4
    cases hxy : Pr.same x y with
    | true =>
     have HS4 : Hid (Pr.sameL (ks.drop (k + 1)) (ls.drop (k + 1)) = S) := hid (by rw [← HSS.out, HD.out, hxy]; rfl);go_wp2_with fail
     go_roundw
     case rel => exact ⟨k + 1, hlt, by go_num, HS4.out, HB4.out⟩
     case measure => simp [RowKit.intOf]; omega
    | false =>
     have HS4 : Hid (S = false) := hid (by rw [← HSS.out, HD.out, hxy]; rfl);go_wp2_with fail;go_ret;exact ⟨congrArg (fun b => Ending.returned (.bool b)) HS4.out.symm, HB4.out⟩
   ·obtain rfl : k = ks.length := by omega
    have HS4 : Hid (S = true) := hid (by rw [← HSS.out, List.drop_length, HLEN.out, List.drop_length]; rfl);go_wp2_with fail;go_ret;exact ⟨congrArg (fun b => Ending.returned (.bool b)) HS4.out.symm, HB.out⟩
 ·have hlq : (!((ks.length : Int) == (ls.length : Int))) = true := by rw [beq_eq_false_iff_ne.2 (by omega)]; rfl
  have HS : Hid (Pr.sameL ks ls = false) := hid (Pr.sameL_len hlen);have hlq2 : (ks.length == ls.length) = false := beq_eq_false_iff_ne.2 hlen;clear hlen;rw [HS.out];go_enter Tryz.func48, Tryz.ntmps48;go_wp2_with fail;go_ret;exact ⟨rfl, Below.refl _ _⟩
end Go.Proofs.YtchkiegehejfmaaGreatDoor
