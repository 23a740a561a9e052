/- The texts Ym, Yn, Gl of this proof, one behind the other. -/
import Derived.Lib.IndexBytes
import Derived.Lib.SplitLaws
import Derived.Test.YtchkiegehejfmaaGreatDoorMsaw
import Derived.Test.YtchkiegehejfmaaGreatDoorMsbf
import Derived.Test.YtchkiegehejfmaaGreatDoorMsax
import Derived.Test.YtchkiegehejfmaaGreatDoorMsaz
set_option linter.unusedSimpArgs false
set_option maxHeartbeats 16000000
set_option maxRecDepth 100000
set_option linter.unusedVariables false
namespace Ar
open Go.Lib
theorem EK : ∀ (l t : Str) (c : UInt8), c ∉ l → indexByte (l ++ c :: t) c = (l.length : Int)
 | [], t, c, _ => by
  show indexByte (c :: t) c = 0;rw [indexByte, if_pos (beq_self_eq_true c)]
 | b :: l, t, c, h => by
  simp only [List.mem_cons, not_or] at h;have ih := EK l t c h.2;show indexByte (b :: (l ++ c :: t)) c = _;have h1 : ¬ (b == c) = true := fun e => h.1 (beq_iff_eq.1 e).symm
  have h2 : ¬ ((l.length : Int) == -1) = true := fun e => by have := beq_iff_eq.1 e; omega
  rw [indexByte, if_neg h1, ih, if_neg h2, List.length_cons];omega
theorem CF : ∀ (k : Nat) (s : Str), s.count 10 = k → splitK [10] 0 k s = lines s
 | 0, s, h => by
  have hn : (10 : UInt8) ∉ s := fun hm => by have := List.count_pos_iff.2 hm; omega
  rw [Bt s hn];rfl
 | k + 1, s, h => by
  have hm : (10 : UInt8) ∈ s := List.count_pos_iff.1 (by omega);obtain ⟨l, t, rfl, hl⟩ := List.eq_append_cons_of_mem hm;have hc : t.count 10 = k := by
   rw [List.count_append, List.count_eq_zero.2 hl, List.count_cons_self] at h;omega
  have hi : index (l ++ 10 :: t) [10] = (l.length : Int) := by rw [index_one, EK l t 10 hl]
  have h2 : ¬ ((l.length : Int) == -1) = true := fun e => by have := beq_iff_eq.1 e; omega
  rw [Cg l t hl, splitK, hi, if_neg h2, ← CF k t hc]
  congr 1
  ·rw [Int.toNat_natCast, Nat.add_zero, List.take_left]
  ·congr 1
   rw [Int.toNat_natCast, show l ++ 10 :: t = (l ++ [10]) ++ t from by simp, List.drop_left' (by simp)]
end Ar
namespace Go.Proofs.YtchkiegehejfmaaGreatDoor
open Go.RowKit Go.Lib
theorem Cj (s : ByteArray) : splitB ⟨#[10]⟩ 0 (countB s ⟨#[10]⟩) s = (Ar.lines s.data.toList).map bstr := by
 have h := splitB_data ⟨#[10]⟩ 0 (countB s ⟨#[10]⟩) s;rw [show (⟨#[10]⟩ : ByteArray).data.toList = [10] from rfl, Ar.CF _ _ (count_one 10 s.data.toList).symm] at h;have h2 := congrArg (List.map bstr) h;rw [List.map_map] at h2;rw [← h2]
 conv => lhs; rw [← List.map_id (splitB _ _ _ _)]
 rfl
theorem Er (s : ByteArray) : countB s ⟨#[10]⟩ + 1 = (Ar.lines s.data.toList).length := by
 have h := congrArg List.length (Cj s);rw [List.length_map, splitB_all _ (by decide) 0 _ s rfl] at h;exact h
theorem GH : (Tryz.prog.info? 45).map (fun i => (i.zero, i.size, i.bytes)) = some (some (.agg zRl), 6, 96) := by kernel_rfl
theorem rowRl : RowU 23 45 6 96 := ⟨Tryz.underlying23, ⟨_, GH, rfl⟩, by decide, by decide⟩
def RlsV (w : World) (ok : Nat → Prop) (xs : List Value) (L : List Pr.Rl) : Prop := ∀ (i : Nat) (c : Pr.Rl), L[i]? = some c → ∃ cs : List Value, cs.length = 6 ∧ (∀ j u, cs[j]? = some u → xs[i * 6 + j]? = some u) ∧ RlV w ok cs.toArray c
def RlO (w : World) (base : Nat) (ok : Nat → Prop) (v : Value) (L : List Pr.Rl) : Prop := ∃ xs, w.ownsRow base 45 6 v L.length xs ∧ RlsV w (fun b => ok b ∧ some b ≠ v.ownBlock) xs L
section
variable {w w' : World} {ok ok' : Nat → Prop} {xs ys : List Value} {L M : List Pr.Rl} {base : Nat} {v v' : Value}
theorem RlsV.keep (h : RlsV w ok xs L) (hk : ∀ b, ok b → b < w.heap.size → ok' b ∧ w'.heap[b]? = w.heap[b]?) : RlsV w' ok' xs L := fun i c hi => by
 obtain ⟨cs, a, b, d⟩ := h i c hi;exact ⟨cs, a, b, d.keep hk⟩
theorem RlsV.append (h : RlsV w ok xs L) (hl : xs.length = L.length * 6) (h2 : RlsV w ok ys M) : RlsV w ok (xs ++ ys) (L ++ M) := fun i c hi => by
 rcases Nat.lt_or_ge i L.length with hlt | hge
 ·rw [List.getElem?_append_left hlt] at hi;obtain ⟨cs, a, b, d⟩ := h i c hi;refine ⟨cs, a, fun j u hj => ?_, d⟩;have hj2 := b j u hj;rw [List.getElem?_append_left (List.getElem?_eq_some_iff.1 hj2).1];exact hj2
 ·rw [List.getElem?_append_right hge] at hi;obtain ⟨cs, a, b, d⟩ := h2 _ c hi;refine ⟨cs, a, fun j u hj => ?_, d⟩;have hj2 := b j u hj;rw [List.getElem?_append_right (by omega), hl];rwa [show i * 6 + j - L.length * 6 = (i - L.length) * 6 + j by omega]
theorem RlsV.one {X : Array Value} {c : Pr.Rl} (h : RlV w ok X c) : RlsV w ok X.toList [c] := fun i c' hi => by
 cases i with
 | zero =>
  injection hi with hi;subst hi;exact ⟨X.toList, by rw [Array.length_toList, h.size], fun j u hj => by rw [Nat.zero_mul, Nat.zero_add]; exact hj, by rw [Array.toArray_toList]; exact h⟩
 | succ i => simp at hi
theorem RlO.nil : RlO w base ok (.slice none 0 0) [] := ⟨[], World.ownsRow_nil .., fun i c h => by cases h⟩
theorem RlO.bel (h : RlO w base ok v L) (hb : Below w.heap.size w w') : RlO w' base ok v L := by
 obtain ⟨xs, h1, h2⟩ := h;exact ⟨xs, AR h1 hb, h2.keep fun b ho hlt => ⟨ho, hb.block b hlt⟩⟩
theorem RlO.app (h0 : w.ownsRow base 45 6 v L.length xs) (h : RlsV w (fun b => ok b ∧ some b ≠ v.ownBlock) xs L) (hM : RlsV w (fun b => ok b ∧ some b ≠ v.ownBlock) ys M)
  (ho : w'.ownsRow base 45 6 v' (L.length + M.length) (xs ++ ys)) (hg : w.grownBy w' v.ownBlock) (hw : v'.ownBlock = v.ownBlock ∨ v'.ownBlock = some w.heap.size) : RlO w' base ok v' (L ++ M) := by
 refine ⟨xs ++ ys, by rw [List.length_append]; exact ho, ((h.append h0.1 hM).keep fun b hb hlt => ⟨⟨hb.1, fun e => ?_⟩, hg.block b hlt hb.2⟩)⟩;rcases hw with hw | hw
 ·exact hb.2 (e.trans hw)
 ·rw [hw] at e;injection e with e;omega
theorem RlO.row (h : RlO w base ok v L) (hk : ∀ b, ok b → ok' b) (hv : ∀ k, v.ownBlock = some k → ok' k) : ∃ A cap, v = .slice A L.length cap ∧ L.length ≤ cap ∧ RlRow w ok' A L := by
 obtain ⟨xs, h1, h2⟩ := h;obtain ⟨A, cap, rfl, hcap, hr, ha⟩ := AU h1;refine ⟨A, cap, rfl, hcap, fun i c hi => ?_⟩;obtain ⟨cs, h3, h4, h5⟩ := h2 i c hi;obtain ⟨u0, hu0⟩ : ∃ u, cs[0]? = some u := ⟨_, List.getElem?_eq_getElem (by rw [h3]; decide)⟩;obtain ⟨b, off, rfl, hc⟩ := hr.2 _ u0 (h4 0 u0 hu0);refine ⟨b, off, cs, rfl, hv b (ha _ rfl), fun j u hj => ?_, h3, h5.keep fun b hb hlt => ⟨hk b hb.1, rfl⟩⟩;obtain ⟨b', off', e2, hc2⟩ := hr.2 _ u (h4 j u hj);injection e2 with e2;injection e2 with e3 e4 e5;subst e3 e4;rw [Nat.add_assoc];exact hc2
theorem RlO.len (h : RlO w base ok v L) : ∃ A cap, v = .slice A L.length cap ∧ L.length ≤ cap := by
 obtain ⟨xs, h1, h2⟩ := h;obtain ⟨A, cap, e, hcap, -⟩ := AU h1;exact ⟨A, cap, e, hcap⟩
end
theorem D6 (s : List UInt8) (w : World) (hs : s.length ≤ 1000000) : Calls Tryz.prog 29 #[.string (bstr s)] w fun e w' => e = .returned (.bool (Pr.commentP s)) ∧ w = w' := by
 have HT := hid (fun W => Tryz.strings_TrimLeft_one (bstr s) 32 (by decide) W);have hd : (Lib.trimLeftB (bstr s).data.toList 32) = s.dropWhile (· == 32) := rfl;rw [hd] at HT
 have HC : Hid (Pr.commentP s = match s.dropWhile (· == 32) with
  | [] => true
  | c :: _ => c == 35) := hid rfl
 have hl := Pr.dropWhile_le (p := (· == 32)) s;generalize Pr.commentP s = R at *;generalize s.dropWhile (· == 32) = t at *;clear hd
 cases t with
 | nil =>
  have HR : Hid (R = true) := hid HC.out;go_enter Tryz.func29, Tryz.ntmps29;go_wp2_with (go_at_call 58; refine (HT.out _).mono ?_; rintro e w' ⟨rfl, rfl⟩);go_ret;exact ⟨congrArg (fun b => Ending.returned (.bool b)) HR.out.symm, by trivial⟩
 | cons c t =>
  have HR : Hid (R = (c == 35)) := hid HC.out;obtain ⟨S, hS⟩ : ∃ S : ByteArray, (⟨(c :: t).toArray⟩ : ByteArray) = S := ⟨_, rfl⟩;have h0 : 0 < S.size := by rw [← hS]; exact Nat.succ_pos _
  have h1 : S[0]'h0 = c := by subst hS; rfl
  have he : (S.toList == []) = false := by rw [← hS, Lib.toList_data, beq_eq_false_iff_ne]; simp
  have he2 : S.toList.isEmpty = false := by rw [← hS, Lib.toList_data]; rfl
  rw [hS] at HT
  cases hc : (c == 35) with
  | true =>
   have hx : ((S[0]'h0).toNat == 35) = true := by rw [h1, beq_iff_eq.1 hc]; rfl
   have hx2 : (((S[0]'h0).toNat : Int) == 35) = true := by rw [h1, beq_iff_eq.1 hc]; rfl
   rw [hc] at HR;clear hc h1 hS;go_enter Tryz.func29, Tryz.ntmps29;go_wp2_with (go_at_call 58; refine (HT.out _).mono ?_; rintro e w' ⟨rfl, rfl⟩);go_ret;exact ⟨congrArg (fun b => Ending.returned (.bool b)) HR.out.symm, by trivial⟩
  | false =>
   have hx2 : (((S[0]'h0).toNat : Int) == 35) = false := u8_ne (n := 35) rfl (by rw [h1]; exact beq_eq_false_iff_ne.1 hc);rw [hc] at HR;clear hc h1 hS;go_enter Tryz.func29, Tryz.ntmps29;go_wp2_with (go_at_call 58; refine (HT.out _).mono ?_; rintro e w' ⟨rfl, rfl⟩);go_ret;exact ⟨congrArg (fun b => Ending.returned (.bool b)) HR.out.symm, by trivial⟩
end Go.Proofs.YtchkiegehejfmaaGreatDoor
namespace Pr
theorem parseL_skip {i : Nat} {acc : List Rl} {t : Str} {r : List Str} (h : commentP t = true) : parseL i acc (t :: r) = parseL (i + 1) acc r := by rw [parseL, if_pos h]
theorem parseL_bad {i : Nat} {acc : List Rl} {t : Str} {r : List Str} (h : commentP t = false) (h2 : lineP t = none) : parseL i acc (t :: r) = ([], i + 1) := by rw [parseL, h, if_neg (by decide), h2]
theorem parseL_next {i : Nat} {acc : List Rl} {t : Str} {r : List Str} {x : Rl} (h : commentP t = false) (h2 : lineP t = some x) : parseL i acc (t :: r) = parseL (i + 1) (acc ++ [x]) r := by rw [parseL, h, if_neg (by decide), h2]
theorem parseP_long {s : Str} (h : 20000 < s.length) : parseP s = ([], 0, 7) := by unfold parseP; rw [if_pos h]
theorem parseP_bad {s : Str} {n : Nat} (h : ¬ 20000 < s.length) (h2 : parseL 0 [] (Ar.lines s) = ([], n + 1)) : parseP s = ([], (n : Int) + 1, 10) := by
 unfold parseP;rw [if_neg h, h2, if_pos (by simp)];simp
theorem parseP_done {s : Str} {l : List Rl} (h : ¬ 20000 < s.length) (h2 : parseL 0 [] (Ar.lines s) = (l, 0)) : parseP s = if checkE l ≠ 0 then ([], 0, checkE l) else (l, 0, 0) := by
 unfold parseP;rw [if_neg h, h2, if_neg (by simp)]
end Pr
namespace Go.Proofs.YtchkiegehejfmaaGreatDoor
open Go.RowKit Go.Lib
def PaA (w : World) (x : List Pr.Rl × Int × Int) (e : Ending) (w' : World) : Prop := (∃ A cap, e = .returned (.tuple #[.slice A x.1.length cap, .int .i64 x.2.1, .int .i64 x.2.2]) ∧ x.1.length ≤ cap ∧ RlRow w' (fun b => w.heap.size ≤ b) A x.1) ∧ Below w.heap.size w w'
theorem PaA.none_ {w w' : World} {x : List Pr.Rl × Int × Int} {n e : Int} (hx : x = ([], n, e)) (hb : Below w.heap.size w w') : PaA w x (.returned (.tuple #[.slice none 0 0, .int .i64 n, .int .i64 e])) w' := by
 subst hx;exact ⟨⟨none, 0, rfl, Nat.le_refl _, fun i r h => by cases h⟩, hb⟩
theorem PaA.done {w w' : World} {x : List Pr.Rl × Int × Int} {l : List Pr.Rl} {n e : Int} {A : Option Addr} {cap : Nat} (hx : x = (l, n, e)) (hc : l.length ≤ cap) (hr : RlRow w' (fun b => w.heap.size ≤ b) A l) (hb : Below w.heap.size w w') : PaA w x (.returned (.tuple #[.slice A l.length cap, .int .i64 n, .int .i64 e])) w' := by
 subst hx;exact ⟨⟨A, cap, rfl, hc, hr⟩, hb⟩
theorem RlV.open_ {w : World} {ok : Nat → Prop} {X : Array Value} {x : Pr.Rl} (h : RlV w ok X x) : ∃ XA xc XD xd, X = #[.string (bstr x.name), .int .i64 x.wh.op, .string (bstr x.wh.text), .int .i64 x.wh.num, .slice XA x.wh.kids.length xc, .slice XD x.acts.length xd] := by
 obtain ⟨A, cap, D, dcap, rfl, -⟩ := h;exact ⟨_, _, _, _, rfl⟩
theorem B8 (S : ByteArray) (m : Int) (w : World) (hs : S.size ≤ 1000000) (hm : w.cell? ⟨0, 0, none⟩ = some (.int .i64 m)) : Calls Tryz.prog 8 #[.string S] w (PaA w (Pr.parseP S.data.toList)) := by
 have hlen := Am S;obtain ⟨RES, hRES⟩ : ∃ R, Pr.parseP S.data.toList = R := ⟨_, rfl⟩;rw [hRES];by_cases h2 : 20000 < S.size
 ·have HE : Hid (RES = ([], 0, 7)) := hid (by rw [← hRES]; exact Pr.parseP_long (by rw [← hlen]; exact h2));clear hRES hlen hm;go_enter Tryz.func8, Tryz.ntmps8;go_wp2_with fail
  go_ret3
  exact PaA.none_ HE.out (Below.refl _ _)
 have HEB : Hid (∀ n : Nat, Pr.parseL 0 [] (Ar.lines S.data.toList) = ([], n + 1) → RES = ([], (n : Int) + 1, 10)) := hid (fun n h => by rw [← hRES]; exact Pr.parseP_bad (by rw [← hlen]; exact h2) h);have HED : Hid (∀ l, Pr.parseL 0 [] (Ar.lines S.data.toList) = (l, 0) → RES = if Pr.checkE l ≠ 0 then ([], 0, Pr.checkE l) else (l, 0, 0)) := hid (fun l h => by rw [← hRES]; exact Pr.parseP_done (by rw [← hlen]; exact h2) h);have HLL : Hid ((Ar.lines S.data.toList).length ≤ 20001) := hid (by have := Ar.Cy S.data.toList; omega);have HLS : Hid (∀ t ∈ Ar.lines S.data.toList, t.length ≤ 20000) := hid (fun t ht => by have := Ar.BQ S.data.toList t ht; omega);have HSP := hid (Tryz.strings_Split S ⟨#[10]⟩ m w (by omega) hm (by decide));rw [Cj, List.map_map, Er] at HSP;generalize Ar.lines S.data.toList = L at *;have HK1 : Hid (Blk (w.alloc (.cells (strL L).toArray 9)) w.heap.size 9 (strL L).toArray) := hid (Blk.new _ _ _);have HS1 : Hid ((w.alloc (.cells (strL L).toArray 9)).heap.size = w.heap.size + 1) := hid (World.size_alloc ..);have HB1 : Hid (Below w.heap.size w (w.alloc (.cells (strL L).toArray 9))) := hid ((Below.refl _ _).alloc (Nat.le_refl _) _);obtain ⟨X, hX⟩ : ∃ X, Pr.parseL 0 [] L = X := ⟨_, rfl⟩;have HX := hid hX;rw [hX] at HEB HED;have hLL := HLL.out;clear hRES hlen hm hX;go_enter Tryz.func8, Tryz.ntmps8;go_wp2_with fail;refine HSP.out.mono ?_;rintro e w1' ⟨rfl, rfl⟩;rw [show (List.map (Value.string ∘ bstr) L).toArray = (strL L).toArray from rfl];generalize hw1 : w.alloc (.cells (strL L).toArray 9) = w1 at *;go_wp2_with fail
 go_loopw [5, 17] (fun out ix wr => ∃ (k : Nat) (acc : List Pr.Rl), k ≤ L.length ∧ ix = .int .i64 (k : Int) ∧ RlO wr (w.heap.size + 1) (fun b => w.heap.size + 1 ≤ b) out acc ∧ Hid (Pr.parseL k acc (L.drop k) = X) ∧ Hid (∀ x ∈ acc, Pr.RlS x 20000) ∧ acc.length ≤ k ∧ Below (w.heap.size + 1) w1 wr) (fun _ ix _ => L.length - (RowKit.intOf ix).toNat)
 case atStart => exact ⟨0, [], Nat.zero_le _, rfl, RlO.nil, HX, hid (fun x hx => by cases hx), Nat.le_refl _, Below.refl _ _⟩
 case round =>
  obtain ⟨k, acc, hk, rfl, hro, hpl, hsm, hal, hb⟩ := hrel;have HRO := hid hro;have HB := hid hb;obtain ⟨A0, c0, rfl, hc0⟩ := hro.len;have hKr : Blk wr w.heap.size 9 (strL L).toArray := HK1.out.below hb (Nat.lt_succ_self _);have hsw : w.heap.size + 1 ≤ wr.heap.size := by have := hb.size; have := HS1.out; omega
  clear hro hb;by_cases hlt : k < L.length
  ·obtain ⟨t, ht⟩ : ∃ t, L[k]? = some t := ⟨_, List.getElem?_eq_getElem hlt⟩;have hck := hKr.cell k;rw [List.getElem?_toArray, show (strL L)[k]? = some (.string (bstr t)) by unfold strL; rw [List.getElem?_map, ht]; rfl] at hck;have hdr : L.drop k = t :: L.drop (k + 1) := by
    obtain ⟨h1, h3⟩ := List.getElem?_eq_some_iff.1 ht;rw [List.drop_eq_getElem_cons h1, h3]
   rw [hdr] at hpl;have htl := HLS.out t (List.mem_of_getElem? ht);have HCO := hid (fun W => D6 t W (by omega));have hI0 : (0 : Int) ≤ (k : Int) := by omega
   clear hdr ht hKr
   cases hcm : Pr.commentP t with
   | true =>
    have HN : Hid (Pr.parseL (k + 1) acc (L.drop (k + 1)) = X) := hid (by rw [← hpl.out, Pr.parseL_skip hcm]);rw [hcm] at HCO;clear hcm;go_wp2_with (go_at_call 29; refine (HCO.out _).mono ?_; rintro e w' ⟨rfl, rfl⟩)
    go_roundw
    case rel => exact ⟨k + 1, acc, by omega, by go_num, HRO.out, HN, hsm, by omega, HB.out⟩
    case measure => simp [RowKit.intOf]; omega
   | false =>
    have HLI := hid (fun W => GB (bstr t) W (by rw [Ai]; omega));rw [show (bstr t).data.toList = t from rfl] at HLI
    cases hli : Pr.lineP t with
    | none =>
     have HE : Hid (RES = ([], (k : Int) + 1, 10)) := hid (HEB.out k (by rw [← hpl.out, Pr.parseL_bad hcm hli]));rw [hcm] at HCO;rw [hli] at HLI;clear hcm hli
     go_wp2_with (first
      | (go_at_call 29; refine (HCO.out _).mono ?_; rintro e w' ⟨rfl, rfl⟩)
      | (go_at_call 30; refine (HLI.out _).mono ?_; rintro e w2 ⟨he, hb2⟩; obtain rfl : e = .returned (.tuple #[.agg zRl, .bool false]) := he; have HB2 := hid hb2; clear hb2))
     go_ret3
     exact PaA.none_ HE.out ((HB1.out.trans (HB.out.mono (by omega))).trans ((HB2.out.mono (by omega)).alloc (by have := HB2.out.size; omega) _))
    | some x =>
     have HN : Hid (Pr.parseL (k + 1) (acc ++ [x]) (L.drop (k + 1)) = X) := hid (by rw [← hpl.out, Pr.parseL_next hcm hli]);have hxs : Pr.RlS x 20000 := by
      have h3 := Pr.lineP_small (by omega) hli;exact ⟨h3.name, h3.small, Nat.le_trans h3.nodes htl, h3.acts, Nat.le_trans h3.few htl⟩
     have HSM : Hid (∀ y ∈ acc ++ [x], Pr.RlS y 20000) := hid (fun y hy => by
      rcases List.mem_append.1 hy with hy | hy
      ·exact hsm.out y hy
      ·rw [List.mem_singleton.1 hy]; exact hxs)
     rw [hcm] at HCO;rw [hli] at HLI;clear hcm hli hxs;go_wp2_with (go_at_call 29; refine (HCO.out _).mono ?_; rintro e w' ⟨rfl, rfl⟩);refine (HLI.out wr).mono ?_;rintro e w2 ⟨⟨XV, rfl, hV⟩, hb2⟩;have HV := hid hV;have HBr2 := hid hb2;have hs2 : wr.heap.size ≤ w2.heap.size := hb2.size;obtain ⟨XA, xc, XD, xd, rfl⟩ := hV.open_;clear hV hb2;have hza : Below w2.heap.size w2 (w2.alloc (.cells #[.string (bstr x.name), .int .i64 x.wh.op, .string (bstr x.wh.text), .int .i64 x.wh.num, .slice XA x.wh.kids.length xc, .slice XD x.acts.length xd] 45)) := (Below.refl _ _).alloc (Nat.le_refl _) _;have HKA := hid (Blk.new w2 45 #[.string (bstr x.name), .int .i64 x.wh.op, .string (bstr x.wh.text), .int .i64 x.wh.num, .slice XA x.wh.kids.length xc, .slice XD x.acts.length xd]);have hsa : (w2.alloc (.cells #[.string (bstr x.name), .int .i64 x.wh.op, .string (bstr x.wh.text), .int .i64 x.wh.num, .slice XA x.wh.kids.length xc, .slice XD x.acts.length xd] 45)).heap.size = w2.heap.size + 1 := World.size_alloc ..
     have hzb : Below w2.heap.size w2 ((w2.alloc (.cells #[.string (bstr x.name), .int .i64 x.wh.op, .string (bstr x.wh.text), .int .i64 x.wh.num, .slice XA x.wh.kids.length xc, .slice XD x.acts.length xd] 45)).alloc (.cells #[.string (bstr x.name), .int .i64 x.wh.op, .string (bstr x.wh.text), .int .i64 x.wh.num, .slice XA x.wh.kids.length xc, .slice XD x.acts.length xd] 45)) := hza.alloc (by omega) _;have HSX : Hid ((Tryz.prog.info? 45).map (·.size) = some (#[.string (bstr x.name), .int .i64 x.wh.op, .string (bstr x.wh.text), .int .i64 x.wh.num, .slice XA x.wh.kids.length xc, .slice XD x.acts.length xd] : Array Value).size) := hid (by rw [AB]; rfl);have HBW : Hid (Below (w.heap.size + 1) w1 ((w2.alloc (.cells #[.string (bstr x.name), .int .i64 x.wh.op, .string (bstr x.wh.text), .int .i64 x.wh.num, .slice XA x.wh.kids.length xc, .slice XD x.acts.length xd] 45)).alloc (.cells #[.string (bstr x.name), .int .i64 x.wh.op, .string (bstr x.wh.text), .int .i64 x.wh.num, .slice XA x.wh.kids.length xc, .slice XD x.acts.length xd] 45))) := hid ((HB.out.trans (HBr2.out.mono (by omega))).trans (hzb.mono (by omega)));have hRO3 : RlO ((w2.alloc (.cells #[.string (bstr x.name), .int .i64 x.wh.op, .string (bstr x.wh.text), .int .i64 x.wh.num, .slice XA x.wh.kids.length xc, .slice XD x.acts.length xd] 45)).alloc (.cells #[.string (bstr x.name), .int .i64 x.wh.op, .string (bstr x.wh.text), .int .i64 x.wh.num, .slice XA x.wh.kids.length xc, .slice XD x.acts.length xd] 45)) (w.heap.size + 1) (fun b => w.heap.size + 1 ≤ b) (.slice A0 acc.length c0) acc := (HRO.out.bel HBr2.out).bel hzb;have hflt : ∀ q, (Value.slice A0 acc.length c0).ownBlock = some q → q < wr.heap.size := fun q hq => by
      obtain ⟨xs, h1, _⟩ := HRO.out;exact (h1.lt q hq).2
     have HVS : Hid (RlsV ((w2.alloc (.cells #[.string (bstr x.name), .int .i64 x.wh.op, .string (bstr x.wh.text), .int .i64 x.wh.num, .slice XA x.wh.kids.length xc, .slice XD x.acts.length xd] 45)).alloc (.cells #[.string (bstr x.name), .int .i64 x.wh.op, .string (bstr x.wh.text), .int .i64 x.wh.num, .slice XA x.wh.kids.length xc, .slice XD x.acts.length xd] 45)) (fun b => w.heap.size + 1 ≤ b ∧ some b ≠ (Value.slice A0 acc.length c0).ownBlock) [.string (bstr x.name), .int .i64 x.wh.op, .string (bstr x.wh.text), .int .i64 x.wh.num, .slice XA x.wh.kids.length xc, .slice XD x.acts.length xd] [x]) := hid (RlsV.one (X := #[.string (bstr x.name), .int .i64 x.wh.op, .string (bstr x.wh.text), .int .i64 x.wh.num, .slice XA x.wh.kids.length xc, .slice XD x.acts.length xd]) ((HV.out.bel hzb).keep fun b hb _ => ⟨⟨by omega, fun e => by have := hflt b e.symm; omega⟩, rfl⟩));obtain ⟨xs, hown, hcs⟩ := hRO3;have HCS := hid hcs;have hrd : Rd ((w2.alloc (.cells #[.string (bstr x.name), .int .i64 x.wh.op, .string (bstr x.wh.text), .int .i64 x.wh.num, .slice XA x.wh.kids.length xc, .slice XD x.acts.length xd] 45)).alloc (.cells #[.string (bstr x.name), .int .i64 x.wh.op, .string (bstr x.wh.text), .int .i64 x.wh.num, .slice XA x.wh.kids.length xc, .slice XD x.acts.length xd] 45)) (some ⟨w2.heap.size + 1, 0, none⟩) (1 * 6) [.string (bstr x.name), .int .i64 x.wh.op, .string (bstr x.wh.text), .int .i64 x.wh.num, .slice XA x.wh.kids.length xc, .slice XD x.acts.length xd] := by
      have := Rd.of_blk (vs := [.string (bstr x.name), .int .i64 x.wh.op, .string (bstr x.wh.text), .int .i64 x.wh.num, .slice XA x.wh.kids.length xc, .slice XD x.acts.length xd]) (Blk.new (w2.alloc (.cells #[.string (bstr x.name), .int .i64 x.wh.op, .string (bstr x.wh.text), .int .i64 x.wh.num, .slice XA x.wh.kids.length xc, .slice XD x.acts.length xd] 45)) 45 #[.string (bstr x.name), .int .i64 x.wh.op, .string (bstr x.wh.text), .int .i64 x.wh.num, .slice XA x.wh.kids.length xc, .slice XD x.acts.length xd]);rwa [hsa] at this
     have hone2 : ∀ u ∈ ([.string (bstr x.name), .int .i64 x.wh.op, .string (bstr x.wh.text), .int .i64 x.wh.num, .slice XA x.wh.kids.length xc, .slice XD x.acts.length xd] : List Value), u.oneCell' = true := by intro u hu; simp at hu; rcases hu with rfl | rfl | rfl | rfl | rfl | rfl <;> rfl
     have hs4 : w.heap.size + 1 ≤ ((w2.alloc (.cells #[.string (bstr x.name), .int .i64 x.wh.op, .string (bstr x.wh.text), .int .i64 x.wh.num, .slice XA x.wh.kids.length xc, .slice XD x.acts.length xd] 45)).alloc (.cells #[.string (bstr x.name), .int .i64 x.wh.op, .string (bstr x.wh.text), .int .i64 x.wh.num, .slice XA x.wh.kids.length xc, .slice XD x.acts.length xd] 45)).heap.size := by rw [World.size_alloc]; omega
     clear hcs hza hzb hsa
     go_wp2_with (first
      | (refine Ac (by rfl) 45 _ rfl w2.heap.size rfl 45 _ (0, 0) _ rfl HKA.out Tryz.underlying45 HSX.out ?_)
      | ((refine AC rowRl rfl _ _ rfl _ (.slice A0 acc.length c0) _ xs _ (w.heap.size + 1) rfl hown _ 1 1 rfl hrd hone2 hs4 (by omega) ?_); intro v8 w8 ho8 hg8 hb8 hwh8))
     go_roundw
     case rel => exact ⟨k + 1, acc ++ [x], by omega, by go_num, RlO.app hown HCS.out HVS.out ho8 hg8 hwh8, HN, HSM, by rw [List.length_append]; simp; omega, hb8 _ HBW.out⟩
     case measure => simp [RowKit.intOf]; omega
  ·obtain rfl : k = L.length := by omega
   have hX2 : X = (acc, 0) := by rw [← hpl.out, List.drop_length]; rfl
   have HE := hid (HED.out acc hX2)
   obtain ⟨A1, c1, e1, hcap1, hrow⟩ := HRO.out.row (ok' := fun b => w.heap.size ≤ b) (fun b hb => by omega) (fun q hq => by
    obtain ⟨xs, h1, _⟩ := HRO.out;have := (h1.lt q hq).1
    omega)
   injection e1 with e1 e2 e3;subst e1 e3;have HRW := hid hrow;have HCH := hid (B9 _ acc A0 c0 wr (by omega) hc0 hrow (fun x hx => (hsm.out x hx).good (by omega)));have HBF := hid (HB1.out.trans (HB.out.mono (Nat.le_succ _)));clear hX2 hrow e2;generalize Pr.checkE acc = ce at *;by_cases hce : ce = 0
   ·subst hce;rw [if_neg (fun e => e rfl)] at HE;go_wp2_with (go_at_call 23; refine HCH.out.mono ?_; rintro e w2 ⟨rfl, hb2⟩; have HB2 := hid hb2; clear hb2)
    go_ret3
    exact PaA.done HE.out hcap1 (HRW.out.bel HB2.out) (HBF.out.trans (HB2.out.mono (by omega)))
   ·rw [if_pos hce] at HE;have hcn : (ce != 0) = true := by rw [bne_iff_ne]; exact hce
    clear hce;go_wp2_with (go_at_call 23; refine HCH.out.mono ?_; rintro e w2 ⟨rfl, hb2⟩; have HB2 := hid hb2; clear hb2)
    go_ret3
    exact PaA.none_ HE.out (HBF.out.trans (HB2.out.mono (by omega)))
end Go.Proofs.YtchkiegehejfmaaGreatDoor
namespace Pr
theorem lines_cut {s : Str} {k : Nat} (h1 : (10 : UInt8) ∉ s.take k) (h2 : s[k]? = some 10) : Ar.lines s = s.take k :: Ar.lines (s.drop (k + 1)) := by
 obtain ⟨hk, e⟩ := List.getElem?_eq_some_iff.1 h2;have hs : s = s.take k ++ 10 :: s.drop (k + 1) := by
  conv => lhs; rw [← List.take_append_drop k s, List.drop_eq_getElem_cons hk, e]
 conv => lhs; rw [hs]
 exact Ar.Cg _ _ h1
theorem lf_next {s : Str} {k : Nat} {c : UInt8} (h1 : (10 : UInt8) ∉ s.take k) (h2 : s[k]? = some c) (hc : c ≠ 10) : (10 : UInt8) ∉ s.take (k + 1) := by
 obtain ⟨hk, e⟩ := List.getElem?_eq_some_iff.1 h2;rw [List.take_succ_eq_append_getElem hk, e];intro h;rcases List.mem_append.1 h with h | h
 ·exact h1 h
 ·exact hc (List.mem_singleton.1 h).symm
end Pr
namespace Go.Proofs.YtchkiegehejfmaaGreatDoor
open Go.RowKit Go.Lib
def rstL (S : ByteArray) (f : Nat) : List (List UInt8) := if f ≤ S.size then Ar.lines (S.data.toList.drop f) else []
theorem Fl (S : ByteArray) (w : World) (hs : S.size ≤ 1000000) : Calls Tryz.prog 9 #[.string S] w (PaA w (Pr.parseP S.data.toList)) := by
 have hlen := Am S;obtain ⟨RES, hRES⟩ : ∃ R, Pr.parseP S.data.toList = R := ⟨_, rfl⟩;rw [hRES];by_cases h2 : 20000 < S.size
 ·have HE : Hid (RES = ([], 0, 7)) := hid (by rw [← hRES]; exact Pr.parseP_long (by rw [← hlen]; exact h2));clear hRES hlen;go_enter Tryz.func9, Tryz.ntmps9;go_wp2_with fail
  go_ret3
  exact PaA.none_ HE.out (Below.refl _ _)
 have HEB : Hid (∀ n : Nat, Pr.parseL 0 [] (Ar.lines S.data.toList) = ([], n + 1) → RES = ([], (n : Int) + 1, 10)) := hid (fun n h => by rw [← hRES]; exact Pr.parseP_bad (by rw [← hlen]; exact h2) h);have HED : Hid (∀ l, Pr.parseL 0 [] (Ar.lines S.data.toList) = (l, 0) → RES = if Pr.checkE l ≠ 0 then ([], 0, Pr.checkE l) else (l, 0, 0)) := hid (fun l h => by rw [← hRES]; exact Pr.parseP_done (by rw [← hlen]; exact h2) h);obtain ⟨X, hX⟩ : ∃ X, Pr.parseL 0 [] (Ar.lines S.data.toList) = X := ⟨_, rfl⟩;have HX : Hid (Pr.parseL 0 [] (rstL S 0) = X) := hid (by rw [← hX]; unfold rstL; rw [if_pos (Nat.zero_le _), List.drop_zero]);rw [hX] at HEB HED;have HAT : Hid (∀ k (h : k < S.size), S.data.toList[k]? = some S[k]) := hid (AN S);have HLE := hid hlen;have HEX : Hid (∀ a b, S.extract a b = bstr ((S.data.toList.drop a).take (b - a))) := hid (fun a b => A5 (by rw [AK]; rfl));clear hRES hlen hX;go_enter Tryz.func9, Tryz.ntmps9;go_wp2_with fail
 go_loopw [5, 6, 7, 8] (fun out lx fx ix wr => ∃ (k f i : Nat) (acc : List Pr.Rl), f ≤ i ∧ (i ≤ S.size ∨ f = S.size + 1 ∧ i = S.size + 1) ∧ lx = .int .i64 ((k : Int) + 1) ∧ fx = .int .i64 (f : Int) ∧ ix = .int .i64 (i : Int) ∧ RlO wr w.heap.size (fun b => w.heap.size ≤ b) out acc ∧ Hid (Pr.parseL k acc (rstL S f) = X) ∧ Hid ((10 : UInt8) ∉ (S.data.toList.drop f).take (i - f)) ∧ Hid (∀ x ∈ acc, Pr.RlS x 20000) ∧ (acc.length ≤ k ∧ k ≤ f) ∧ Below w.heap.size w wr) (fun _ _ _ ix _ => S.size + 1 - (RowKit.intOf ix).toNat)
 case atStart => exact ⟨0, 0, 0, [], Nat.le_refl _, .inl (Nat.zero_le _), rfl, rfl, rfl, RlO.nil, HX, hid (by simp), hid (fun x hx => by cases hx), ⟨Nat.le_refl _, Nat.le_refl _⟩, Below.refl _ _⟩
 case round =>
  obtain ⟨k, f, i, acc, hfi, hiS, rfl, rfl, rfl, hro, hpl, hlf, hsm, ⟨hal, hkf⟩, hb⟩ := hrel;have HRO := hid hro;have HB := hid hb;obtain ⟨A0, c0, rfl, hc0⟩ := hro.len;have hsw : w.heap.size ≤ wr.heap.size := hb.size;clear hro hb;by_cases hle : i ≤ S.size
  ·have hfS : f ≤ S.size := by omega
   have hxs := HEX.out f i;obtain ⟨t, ht⟩ : ∃ t, (S.data.toList.drop f).take (i - f) = t := ⟨_, rfl⟩
   have HTL : Hid (t.length ≤ 20000) := hid (by
    rw [← ht, List.length_take, List.length_drop, ← HLE.out]
    omega)
   have htl := HTL.out;rw [ht] at hxs;have HTT := hid ht;clear ht;by_cases hlt : i < S.size
   ·have hcl := (S[i]'hlt).toNat_lt;have HGI : Hid ((S.data.toList.drop f)[i - f]? = some (S[i]'hlt)) := hid (by rw [List.getElem?_drop, show f + (i - f) = i by omega]; exact HAT.out i hlt);by_cases h10 : S[i]'hlt = 10
    ·have hy := Bu (n := 10) rfl h10
     have HCUT : Hid (rstL S f = t :: rstL S (i + 1)) := hid (by
      unfold rstL;rw [if_pos hfS, if_pos (show i + 1 ≤ S.size by omega)];have h := Pr.lines_cut hlf.out (by rw [HGI.out, h10])
      rw [h, HTT.out, List.drop_drop, show f + (i - f + 1) = i + 1 by omega])
     clear h10;have HCO := hid (fun W => Co (bstr t) W (by rw [Ai]; omega));rw [show (bstr t).data.toList = t from rfl] at HCO
     cases hcm : Pr.commentP t with
     | true =>
      have HN : Hid (Pr.parseL (k + 1) acc (rstL S (i + 1)) = X) := hid (by rw [← hpl.out, HCUT.out, Pr.parseL_skip hcm]);rw [hcm] at HCO;clear hcm;go_wp2_with (go_at_call 31; refine (HCO.out _).mono ?_; rintro e w' ⟨rfl, rfl⟩)
      go_roundw
      case rel => exact ⟨k + 1, i + 1, i + 1, acc, Nat.le_refl _, by omega, by go_num, by go_num, by go_num, HRO.out, HN, hid (by rw [Nat.sub_self]; simp), hsm, by omega, HB.out⟩
      case measure => simp [RowKit.intOf] <;> omega
     | false =>
      have HLI := hid (fun W => DJ (bstr t) W (by rw [Ai]; omega));rw [show (bstr t).data.toList = t from rfl] at HLI
      cases hli : Pr.lineP t with
      | none =>
       have HE : Hid (RES = ([], (k : Int) + 1, 10)) := hid (HEB.out k (by rw [← hpl.out, HCUT.out, Pr.parseL_bad hcm hli]));rw [hcm] at HCO;rw [hli] at HLI;clear hcm hli
       go_wp2_with (first
        | (go_at_call 31; refine (HCO.out _).mono ?_; rintro e w' ⟨rfl, rfl⟩)
        | (go_at_call 32; refine (HLI.out _).mono ?_; rintro e w2 ⟨he, hb2⟩; obtain rfl : e = .returned (.tuple #[.agg zRl, .bool false]) := he; have HB2 := hid hb2; clear hb2))
       go_ret3
       exact PaA.none_ HE.out (HB.out.trans ((HB2.out.mono hsw).alloc (by have := HB2.out.size; omega) _))
      | some x =>
       have HN : Hid (Pr.parseL (k + 1) (acc ++ [x]) (rstL S (i + 1)) = X) := hid (by rw [← hpl.out, HCUT.out, Pr.parseL_next hcm hli]);have hxs : Pr.RlS x 20000 := by
        have h3 := Pr.lineP_small (by omega) hli;exact ⟨h3.name, h3.small, Nat.le_trans h3.nodes htl, h3.acts, Nat.le_trans h3.few htl⟩
       have HSM : Hid (∀ y ∈ acc ++ [x], Pr.RlS y 20000) := hid (fun y hy => by
        rcases List.mem_append.1 hy with hy | hy
        ·exact hsm.out y hy
        ·rw [List.mem_singleton.1 hy]; exact hxs)
       rw [hcm] at HCO;rw [hli] at HLI;clear hcm hli hxs;go_wp2_with (go_at_call 31; refine (HCO.out _).mono ?_; rintro e w' ⟨rfl, rfl⟩);refine (HLI.out wr).mono ?_;rintro e w2 ⟨⟨XV, rfl, hV⟩, hb2⟩;have HV := hid hV;have HBr2 := hid hb2;have hs2 : wr.heap.size ≤ w2.heap.size := hb2.size;obtain ⟨XA, xc, XD, xd, rfl⟩ := hV.open_;clear hV hb2;have hza : Below w2.heap.size w2 (w2.alloc (.cells #[.string (bstr x.name), .int .i64 x.wh.op, .string (bstr x.wh.text), .int .i64 x.wh.num, .slice XA x.wh.kids.length xc, .slice XD x.acts.length xd] 45)) := (Below.refl _ _).alloc (Nat.le_refl _) _;have HKA := hid (Blk.new w2 45 #[.string (bstr x.name), .int .i64 x.wh.op, .string (bstr x.wh.text), .int .i64 x.wh.num, .slice XA x.wh.kids.length xc, .slice XD x.acts.length xd]);have hsa : (w2.alloc (.cells #[.string (bstr x.name), .int .i64 x.wh.op, .string (bstr x.wh.text), .int .i64 x.wh.num, .slice XA x.wh.kids.length xc, .slice XD x.acts.length xd] 45)).heap.size = w2.heap.size + 1 := World.size_alloc ..
       have hzb : Below w2.heap.size w2 ((w2.alloc (.cells #[.string (bstr x.name), .int .i64 x.wh.op, .string (bstr x.wh.text), .int .i64 x.wh.num, .slice XA x.wh.kids.length xc, .slice XD x.acts.length xd] 45)).alloc (.cells #[.string (bstr x.name), .int .i64 x.wh.op, .string (bstr x.wh.text), .int .i64 x.wh.num, .slice XA x.wh.kids.length xc, .slice XD x.acts.length xd] 45)) := hza.alloc (by omega) _;have HSX : Hid ((Tryz.prog.info? 45).map (·.size) = some (#[.string (bstr x.name), .int .i64 x.wh.op, .string (bstr x.wh.text), .int .i64 x.wh.num, .slice XA x.wh.kids.length xc, .slice XD x.acts.length xd] : Array Value).size) := hid (by rw [AB]; rfl);have HBW : Hid (Below w.heap.size w ((w2.alloc (.cells #[.string (bstr x.name), .int .i64 x.wh.op, .string (bstr x.wh.text), .int .i64 x.wh.num, .slice XA x.wh.kids.length xc, .slice XD x.acts.length xd] 45)).alloc (.cells #[.string (bstr x.name), .int .i64 x.wh.op, .string (bstr x.wh.text), .int .i64 x.wh.num, .slice XA x.wh.kids.length xc, .slice XD x.acts.length xd] 45))) := hid ((HB.out.trans (HBr2.out.mono (by omega))).trans (hzb.mono (by omega)));have hRO3 : RlO ((w2.alloc (.cells #[.string (bstr x.name), .int .i64 x.wh.op, .string (bstr x.wh.text), .int .i64 x.wh.num, .slice XA x.wh.kids.length xc, .slice XD x.acts.length xd] 45)).alloc (.cells #[.string (bstr x.name), .int .i64 x.wh.op, .string (bstr x.wh.text), .int .i64 x.wh.num, .slice XA x.wh.kids.length xc, .slice XD x.acts.length xd] 45)) w.heap.size (fun b => w.heap.size ≤ b) (.slice A0 acc.length c0) acc := (HRO.out.bel HBr2.out).bel hzb;have hflt : ∀ q, (Value.slice A0 acc.length c0).ownBlock = some q → q < wr.heap.size := fun q hq => by
        obtain ⟨xs, h1, _⟩ := HRO.out;exact (h1.lt q hq).2
       have HVS : Hid (RlsV ((w2.alloc (.cells #[.string (bstr x.name), .int .i64 x.wh.op, .string (bstr x.wh.text), .int .i64 x.wh.num, .slice XA x.wh.kids.length xc, .slice XD x.acts.length xd] 45)).alloc (.cells #[.string (bstr x.name), .int .i64 x.wh.op, .string (bstr x.wh.text), .int .i64 x.wh.num, .slice XA x.wh.kids.length xc, .slice XD x.acts.length xd] 45)) (fun b => w.heap.size ≤ b ∧ some b ≠ (Value.slice A0 acc.length c0).ownBlock) [.string (bstr x.name), .int .i64 x.wh.op, .string (bstr x.wh.text), .int .i64 x.wh.num, .slice XA x.wh.kids.length xc, .slice XD x.acts.length xd] [x]) := hid (RlsV.one ((HV.out.bel hzb).keep fun b hb _ => ⟨⟨by omega, fun e => by have := hflt _ e.symm; omega⟩, rfl⟩));obtain ⟨xs, hown, hcs⟩ := hRO3;have HCS := hid hcs;have hrd : Rd ((w2.alloc (.cells #[.string (bstr x.name), .int .i64 x.wh.op, .string (bstr x.wh.text), .int .i64 x.wh.num, .slice XA x.wh.kids.length xc, .slice XD x.acts.length xd] 45)).alloc (.cells #[.string (bstr x.name), .int .i64 x.wh.op, .string (bstr x.wh.text), .int .i64 x.wh.num, .slice XA x.wh.kids.length xc, .slice XD x.acts.length xd] 45)) (some ⟨w2.heap.size + 1, 0, none⟩) (1 * 6) [.string (bstr x.name), .int .i64 x.wh.op, .string (bstr x.wh.text), .int .i64 x.wh.num, .slice XA x.wh.kids.length xc, .slice XD x.acts.length xd] := by
        have := Rd.of_blk (vs := [.string (bstr x.name), .int .i64 x.wh.op, .string (bstr x.wh.text), .int .i64 x.wh.num, .slice XA x.wh.kids.length xc, .slice XD x.acts.length xd]) (Blk.new (w2.alloc (.cells #[.string (bstr x.name), .int .i64 x.wh.op, .string (bstr x.wh.text), .int .i64 x.wh.num, .slice XA x.wh.kids.length xc, .slice XD x.acts.length xd] 45)) 45 #[.string (bstr x.name), .int .i64 x.wh.op, .string (bstr x.wh.text), .int .i64 x.wh.num, .slice XA x.wh.kids.length xc, .slice XD x.acts.length xd]);rwa [hsa] at this
       have hone2 : ∀ u ∈ ([.string (bstr x.name), .int .i64 x.wh.op, .string (bstr x.wh.text), .int .i64 x.wh.num, .slice XA x.wh.kids.length xc, .slice XD x.acts.length xd] : List Value), u.oneCell' = true := by intro u hu; simp at hu; rcases hu with rfl | rfl | rfl | rfl | rfl | rfl <;> rfl
       have hs4 : w.heap.size ≤ ((w2.alloc (.cells #[.string (bstr x.name), .int .i64 x.wh.op, .string (bstr x.wh.text), .int .i64 x.wh.num, .slice XA x.wh.kids.length xc, .slice XD x.acts.length xd] 45)).alloc (.cells #[.string (bstr x.name), .int .i64 x.wh.op, .string (bstr x.wh.text), .int .i64 x.wh.num, .slice XA x.wh.kids.length xc, .slice XD x.acts.length xd] 45)).heap.size := by rw [World.size_alloc]; omega
       clear hcs hza hzb hsa
       go_wp2_with (first
        | (refine Ac (by rfl) 45 _ rfl w2.heap.size rfl 45 _ (0, 0) _ rfl HKA.out Tryz.underlying45 HSX.out ?_)
        | ((refine AC rowRl rfl _ _ rfl _ (.slice A0 acc.length c0) _ xs _ w.heap.size rfl hown _ 1 1 rfl hrd hone2 hs4 (by omega) ?_); intro v8 w8 ho8 hg8 hb8 hwh8))
       go_roundw
       case rel => exact ⟨k + 1, i + 1, i + 1, acc ++ [x], Nat.le_refl _, by omega, by go_num, by go_num, by go_num, RlO.app hown HCS.out HVS.out ho8 hg8 hwh8, HN, hid (by rw [Nat.sub_self]; simp), HSM, by rw [List.length_append]; simp; omega, hb8 _ HBW.out⟩
       case measure => simp [RowKit.intOf] <;> omega
    ·have hy := Bh (n := 10) rfl h10
     have HLF : Hid ((10 : UInt8) ∉ (S.data.toList.drop f).take (i + 1 - f)) := hid (by
      have := Pr.lf_next hlf.out HGI.out h10
      rwa [show i - f + 1 = i + 1 - f by omega] at this)
     clear h10 hxs;go_wp2_with fail
     go_roundw
     case rel => exact ⟨k, f, i + 1, acc, by omega, by omega, rfl, rfl, by go_num, HRO.out, hpl, HLF, hsm, ⟨hal, hkf⟩, HB.out⟩
     case measure => simp [RowKit.intOf]; omega
   ·obtain rfl : i = S.size := by omega
    have HCUT : Hid (rstL S f = t :: rstL S (S.size + 1)) := hid (by
     unfold rstL;rw [if_pos hfS, if_neg (by omega)];have h1 : (S.data.toList.drop f).take (S.size - f) = S.data.toList.drop f := List.take_of_length_le (by rw [List.length_drop, ← HLE.out]; omega);have h2 := hlf.out;have h3 := HTT.out;rw [h1] at h2 h3
     rw [Ar.Bt _ h2, h3])
    have HCO := hid (fun W => Co (bstr t) W (by rw [Ai]; omega));rw [show (bstr t).data.toList = t from rfl] at HCO
    cases hcm : Pr.commentP t with
    | true =>
     have HN : Hid (Pr.parseL (k + 1) acc (rstL S (S.size + 1)) = X) := hid (by rw [← hpl.out, HCUT.out, Pr.parseL_skip hcm]);rw [hcm] at HCO;clear hcm;go_wp2_with (go_at_call 31; refine (HCO.out _).mono ?_; rintro e w' ⟨rfl, rfl⟩)
     go_roundw
     case rel => exact ⟨k + 1, S.size + 1, S.size + 1, acc, Nat.le_refl _, by omega, by go_num, by go_num, by go_num, HRO.out, HN, hid (by rw [Nat.sub_self]; simp), hsm, by omega, HB.out⟩
     case measure => simp [RowKit.intOf] <;> omega
    | false =>
     have HLI := hid (fun W => DJ (bstr t) W (by rw [Ai]; omega));rw [show (bstr t).data.toList = t from rfl] at HLI
     cases hli : Pr.lineP t with
     | none =>
      have HE : Hid (RES = ([], (k : Int) + 1, 10)) := hid (HEB.out k (by rw [← hpl.out, HCUT.out, Pr.parseL_bad hcm hli]));rw [hcm] at HCO;rw [hli] at HLI;clear hcm hli
      go_wp2_with (first
       | (go_at_call 31; refine (HCO.out _).mono ?_; rintro e w' ⟨rfl, rfl⟩)
       | (go_at_call 32; refine (HLI.out _).mono ?_; rintro e w2 ⟨he, hb2⟩; obtain rfl : e = .returned (.tuple #[.agg zRl, .bool false]) := he; have HB2 := hid hb2; clear hb2))
      go_ret3
      exact PaA.none_ HE.out (HB.out.trans ((HB2.out.mono hsw).alloc (by have := HB2.out.size; omega) _))
     | some x =>
      have HN : Hid (Pr.parseL (k + 1) (acc ++ [x]) (rstL S (S.size + 1)) = X) := hid (by rw [← hpl.out, HCUT.out, Pr.parseL_next hcm hli]);have hxs : Pr.RlS x 20000 := by
       have h3 := Pr.lineP_small (by omega) hli;exact ⟨h3.name, h3.small, Nat.le_trans h3.nodes htl, h3.acts, Nat.le_trans h3.few htl⟩
      have HSM : Hid (∀ y ∈ acc ++ [x], Pr.RlS y 20000) := hid (fun y hy => by
       rcases List.mem_append.1 hy with hy | hy
       ·exact hsm.out y hy
       ·rw [List.mem_singleton.1 hy]; exact hxs)
      rw [hcm] at HCO;rw [hli] at HLI;clear hcm hli hxs;go_wp2_with (go_at_call 31; refine (HCO.out _).mono ?_; rintro e w' ⟨rfl, rfl⟩);refine (HLI.out wr).mono ?_;rintro e w2 ⟨⟨XV, rfl, hV⟩, hb2⟩;have HV := hid hV;have HBr2 := hid hb2;have hs2 : wr.heap.size ≤ w2.heap.size := hb2.size;obtain ⟨XA, xc, XD, xd, rfl⟩ := hV.open_;clear hV hb2;have hza : Below w2.heap.size w2 (w2.alloc (.cells #[.string (bstr x.name), .int .i64 x.wh.op, .string (bstr x.wh.text), .int .i64 x.wh.num, .slice XA x.wh.kids.length xc, .slice XD x.acts.length xd] 45)) := (Below.refl _ _).alloc (Nat.le_refl _) _;have HKA := hid (Blk.new w2 45 #[.string (bstr x.name), .int .i64 x.wh.op, .string (bstr x.wh.text), .int .i64 x.wh.num, .slice XA x.wh.kids.length xc, .slice XD x.acts.length xd]);have hsa : (w2.alloc (.cells #[.string (bstr x.name), .int .i64 x.wh.op, .string (bstr x.wh.text), .int .i64 x.wh.num, .slice XA x.wh.kids.length xc, .slice XD x.acts.length xd] 45)).heap.size = w2.heap.size + 1 := World.size_alloc ..
      have hzb : Below w2.heap.size w2 ((w2.alloc (.cells #[.string (bstr x.name), .int .i64 x.wh.op, .string (bstr x.wh.text), .int .i64 x.wh.num, .slice XA x.wh.kids.length xc, .slice XD x.acts.length xd] 45)).alloc (.cells #[.string (bstr x.name), .int .i64 x.wh.op, .string (bstr x.wh.text), .int .i64 x.wh.num, .slice XA x.wh.kids.length xc, .slice XD x.acts.length xd] 45)) := hza.alloc (by omega) _;have HSX : Hid ((Tryz.prog.info? 45).map (·.size) = some (#[.string (bstr x.name), .int .i64 x.wh.op, .string (bstr x.wh.text), .int .i64 x.wh.num, .slice XA x.wh.kids.length xc, .slice XD x.acts.length xd] : Array Value).size) := hid (by rw [AB]; rfl);have HBW : Hid (Below w.heap.size w ((w2.alloc (.cells #[.string (bstr x.name), .int .i64 x.wh.op, .string (bstr x.wh.text), .int .i64 x.wh.num, .slice XA x.wh.kids.length xc, .slice XD x.acts.length xd] 45)).alloc (.cells #[.string (bstr x.name), .int .i64 x.wh.op, .string (bstr x.wh.text), .int .i64 x.wh.num, .slice XA x.wh.kids.length xc, .slice XD x.acts.length xd] 45))) := hid ((HB.out.trans (HBr2.out.mono (by omega))).trans (hzb.mono (by omega)));have hRO3 : RlO ((w2.alloc (.cells #[.string (bstr x.name), .int .i64 x.wh.op, .string (bstr x.wh.text), .int .i64 x.wh.num, .slice XA x.wh.kids.length xc, .slice XD x.acts.length xd] 45)).alloc (.cells #[.string (bstr x.name), .int .i64 x.wh.op, .string (bstr x.wh.text), .int .i64 x.wh.num, .slice XA x.wh.kids.length xc, .slice XD x.acts.length xd] 45)) w.heap.size (fun b => w.heap.size ≤ b) (.slice A0 acc.length c0) acc := (HRO.out.bel HBr2.out).bel hzb;have hflt : ∀ q, (Value.slice A0 acc.length c0).ownBlock = some q → q < wr.heap.size := fun q hq => by
       obtain ⟨xs, h1, _⟩ := HRO.out;exact (h1.lt q hq).2
      have HVS : Hid (RlsV ((w2.alloc (.cells #[.string (bstr x.name), .int .i64 x.wh.op, .string (bstr x.wh.text), .int .i64 x.wh.num, .slice XA x.wh.kids.length xc, .slice XD x.acts.length xd] 45)).alloc (.cells #[.string (bstr x.name), .int .i64 x.wh.op, .string (bstr x.wh.text), .int .i64 x.wh.num, .slice XA x.wh.kids.length xc, .slice XD x.acts.length xd] 45)) (fun b => w.heap.size ≤ b ∧ some b ≠ (Value.slice A0 acc.length c0).ownBlock) [.string (bstr x.name), .int .i64 x.wh.op, .string (bstr x.wh.text), .int .i64 x.wh.num, .slice XA x.wh.kids.length xc, .slice XD x.acts.length xd] [x]) := hid (RlsV.one ((HV.out.bel hzb).keep fun b hb _ => ⟨⟨by omega, fun e => by have := hflt _ e.symm; omega⟩, rfl⟩));obtain ⟨xs, hown, hcs⟩ := hRO3;have HCS := hid hcs;have hrd : Rd ((w2.alloc (.cells #[.string (bstr x.name), .int .i64 x.wh.op, .string (bstr x.wh.text), .int .i64 x.wh.num, .slice XA x.wh.kids.length xc, .slice XD x.acts.length xd] 45)).alloc (.cells #[.string (bstr x.name), .int .i64 x.wh.op, .string (bstr x.wh.text), .int .i64 x.wh.num, .slice XA x.wh.kids.length xc, .slice XD x.acts.length xd] 45)) (some ⟨w2.heap.size + 1, 0, none⟩) (1 * 6) [.string (bstr x.name), .int .i64 x.wh.op, .string (bstr x.wh.text), .int .i64 x.wh.num, .slice XA x.wh.kids.length xc, .slice XD x.acts.length xd] := by
       have := Rd.of_blk (vs := [.string (bstr x.name), .int .i64 x.wh.op, .string (bstr x.wh.text), .int .i64 x.wh.num, .slice XA x.wh.kids.length xc, .slice XD x.acts.length xd]) (Blk.new (w2.alloc (.cells #[.string (bstr x.name), .int .i64 x.wh.op, .string (bstr x.wh.text), .int .i64 x.wh.num, .slice XA x.wh.kids.length xc, .slice XD x.acts.length xd] 45)) 45 #[.string (bstr x.name), .int .i64 x.wh.op, .string (bstr x.wh.text), .int .i64 x.wh.num, .slice XA x.wh.kids.length xc, .slice XD x.acts.length xd]);rwa [hsa] at this
      have hone2 : ∀ u ∈ ([.string (bstr x.name), .int .i64 x.wh.op, .string (bstr x.wh.text), .int .i64 x.wh.num, .slice XA x.wh.kids.length xc, .slice XD x.acts.length xd] : List Value), u.oneCell' = true := by intro u hu; simp at hu; rcases hu with rfl | rfl | rfl | rfl | rfl | rfl <;> rfl
      have hs4 : w.heap.size ≤ ((w2.alloc (.cells #[.string (bstr x.name), .int .i64 x.wh.op, .string (bstr x.wh.text), .int .i64 x.wh.num, .slice XA x.wh.kids.length xc, .slice XD x.acts.length xd] 45)).alloc (.cells #[.string (bstr x.name), .int .i64 x.wh.op, .string (bstr x.wh.text), .int .i64 x.wh.num, .slice XA x.wh.kids.length xc, .slice XD x.acts.length xd] 45)).heap.size := by rw [World.size_alloc]; omega
      clear hcs hza hzb hsa
      go_wp2_with (first
       | (refine Ac (by rfl) 45 _ rfl w2.heap.size rfl 45 _ (0, 0) _ rfl HKA.out Tryz.underlying45 HSX.out ?_)
       | ((refine AC rowRl rfl _ _ rfl _ (.slice A0 acc.length c0) _ xs _ w.heap.size rfl hown _ 1 1 rfl hrd hone2 hs4 (by omega) ?_); intro v8 w8 ho8 hg8 hb8 hwh8))
      go_roundw
      case rel => exact ⟨k + 1, S.size + 1, S.size + 1, acc ++ [x], Nat.le_refl _, by omega, by go_num, by go_num, by go_num, RlO.app hown HCS.out HVS.out ho8 hg8 hwh8, HN, hid (by rw [Nat.sub_self]; simp), HSM, by rw [List.length_append]; simp; omega, hb8 _ HBW.out⟩
      case measure => simp [RowKit.intOf] <;> omega
  ·have hfe : f = S.size + 1 ∧ i = S.size + 1 := by omega
   have HX2 : Hid (X = (acc, 0)) := hid (by
    rw [← hpl.out];unfold rstL;rw [if_neg (by omega)]
    rfl)
   have HE := hid (HED.out acc HX2.out);have hiI : ¬ (i : Int) ≤ (S.size : Int) := by omega
   obtain ⟨A1, c1, e1, hcap1, hrow⟩ := HRO.out.row (ok' := fun b => w.heap.size ≤ b) (fun b hb => by omega) (fun q hq => by
    obtain ⟨xs, h1, _⟩ := HRO.out;have := (h1.lt q hq).1
    omega)
   injection e1 with e1 e2 e3;subst e1 e3;have HRW := hid hrow;have HCH := hid (E5 _ acc A0 c0 wr (by omega) hc0 hrow (fun x hx => (hsm.out x hx).good (by omega)));clear hrow e2;generalize Pr.checkE acc = ce at *;by_cases hce : ce = 0
   ·subst hce;rw [if_neg (fun e => e rfl)] at HE;go_wp2_with (go_at_call 24; refine HCH.out.mono ?_; rintro e w2 ⟨rfl, hb2⟩; have HB2 := hid hb2; clear hb2)
    go_ret3
    exact PaA.done HE.out hcap1 (HRW.out.bel HB2.out) (HB.out.trans (HB2.out.mono (by omega)))
   ·rw [if_pos hce] at HE;have hcn : (ce != 0) = true := by rw [bne_iff_ne]; exact hce
    have hcq : (ce == 0) = false := beq_eq_false_iff_ne.2 hce;clear hce;go_wp2_with (go_at_call 24; refine HCH.out.mono ?_; rintro e w2 ⟨rfl, hb2⟩; have HB2 := hid hb2; clear hb2)
    go_ret3
    exact PaA.none_ HE.out (HB.out.trans (HB2.out.mono (by omega)))
end Go.Proofs.YtchkiegehejfmaaGreatDoor
