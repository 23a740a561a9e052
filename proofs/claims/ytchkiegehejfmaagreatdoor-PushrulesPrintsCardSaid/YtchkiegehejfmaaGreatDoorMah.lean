/- The text Yb. -/
import Derived.Test.YtchkiegehejfmaaGreatDoorMag
set_option linter.unusedSimpArgs false
set_option maxHeartbeats 16000000
set_option maxRecDepth 100000
namespace Pr
theorem tkz_w (c : UInt8) (r : Str) (h : wordc c = true) : tkz (c :: r) = (tkz ((c :: r).dropWhile wordc)).map (⟨1, (c :: r).takeWhile wordc⟩ :: ·) := by
 have hc := h
 unfold wordc at hc
 simp only [Bool.and_eq_true, bne_iff_ne, beq_iff_eq] at hc
 unfold tkz
 rw [toks, if_neg hc.1.1, if_neg (by rw [hc.2]; simp), if_neg hc.1.2, toks_acc]
 have hd : (c :: r).dropWhile wordc = r.dropWhile wordc := by rw [List.dropWhile_cons, if_pos h]
 have hl := dropWhile_le (p := wordc) r
 rw [hd, toks_fuel _ ((r.dropWhile wordc).length + 1) [] _ (by rw [List.length_cons]; omega) (by omega)]
 rfl
theorem tkz_q0 (r : Str) (h : quoteP [] r = none) : tkz (34 :: r) = none := by
 unfold tkz
 rw [toks, if_neg (by decide), if_neg (by decide), if_pos rfl, h]
theorem tkz_q1 (r t q : Str) (h : quoteP [] r = some (t, q)) : tkz (34 :: r) = (tkz q).map (⟨2, t⟩ :: ·) := by
 have hl := quoteP_len _ _ _ _ _ (Nat.le_refl _) h
 unfold tkz
 rw [toks, if_neg (by decide), if_neg (by decide), if_pos rfl, h]
 show toks _ ([] ++ [⟨2, t⟩]) q = _
 rw [toks_acc, toks_fuel _ (q.length + 1) [] q (by rw [List.length_cons]; omega) (by omega)]
 rfl
def tkA (acc : List Tk) (s : Str) : Option (List Tk) := (tkz s).map (acc ++ ·)
theorem tkA_cons {acc : List Tk} {s q : Str} {t : Tk} (h : tkz s = (tkz q).map (t :: ·)) : tkA acc s = tkA (acc ++ [t]) q := by
 unfold tkA
 rw [h]
 cases tkz q <;> simp
theorem tkA_nil (acc : List Tk) : tkA acc [] = some acc := by unfold tkA; rw [tkz_nil]; simp
theorem while_of {p : UInt8 → Bool} {l : Str} {k : Nat} (h1 : ∀ c ∈ l.take k, p c = true) (h2 : ∀ c, l[k]? = some c → p c = false) : l.takeWhile p = l.take k ∧ l.dropWhile p = l.drop k := by
 have := Ar.take_stop (p := p) (l := l.take k) (t := l.drop k) h1 (by
  intro c r e
  refine h2 c ?_
  have : (l.drop k)[0]? = some c := by rw [e]; rfl
  rwa [List.getElem?_drop, Nat.add_zero] at this)
 rwa [List.take_append_drop] at this
theorem while_next {p : UInt8 → Bool} {l : Str} {k : Nat} {c : UInt8} (h1 : ∀ c ∈ l.take k, p c = true) (h2 : l[k]? = some c) (h3 : p c = true) : ∀ c ∈ l.take (k + 1), p c = true := by
 intro d hd
 rw [List.take_add_one, h2] at hd
 rcases List.mem_append.1 hd with hd | hd
 ·exact h1 d hd
 ·rw [List.mem_singleton.1 hd]; exact h3
theorem markOf_byte (c : UInt8) : markOf c = 0 ∨ markOf c = 3 ∨ markOf c = 4 ∨ markOf c = 5 := by
 unfold markOf
 split
 ·simp
 ·split
  ·simp
  ·split <;> simp
end Pr
namespace Go.Proofs.YtchkiegehejfmaaGreatDoor
open Go.RowKit Go.Lib
set_option linter.unusedVariables false
set_option linter.unusedSimpArgs false
def tkV (t : Pr.Tk) : List Value := [.int .i64 t.form, .string (bstr t.text)]
def tkL (L : List Pr.Tk) : List Value := L.flatMap tkV
theorem tkL_app (a b : List Pr.Tk) : tkL (a ++ b) = tkL a ++ tkL b := List.flatMap_append
theorem tkL_len : ∀ L : List Pr.Tk, (tkL L).length = L.length * 2
 | [] => rfl
 | t :: L => by
  have := tkL_len L
  unfold tkL at *
  rw [List.flatMap_cons, List.length_append, this, List.length_cons]
  show 2 + _ = _
  omega
theorem info_tok : (Tryz.prog.info? 92).map (fun i => (i.zero, i.size, i.bytes)) = some (some (.agg #[.int .i64 0, .string ByteArray.empty]), 2, 24) := by kernel_rfl
theorem size_tok : (Tryz.prog.info? 92).map (·.size) = some 2 := by kernel_rfl
theorem rowTk : RowU 85 92 2 24 := ⟨Tryz.underlying85, ⟨_, info_tok, rfl⟩, by decide, by decide⟩
theorem tkV_one (f : Int) (t : List UInt8) : ∀ u ∈ ([.int .i64 f, .string (bstr t)] : List Value), u.oneCell' = true := by intro u hu; simp at hu; rcases hu with rfl | rfl <;> rfl
theorem rd_tok (w : World) (f : Int) (t : List UInt8) : Rd (w.alloc (.cells #[.int .i64 f, .string (bstr t)] 92)) (some ⟨w.heap.size, 0, none⟩) (1 * 2) [.int .i64 f, .string (bstr t)] := Rd.of_blk (vs := [.int .i64 f, .string (bstr t)]) (Blk.new w 92 #[.int .i64 f, .string (bstr t)])
theorem own_tok {w : World} {base : Nat} {v : Value} {acc : List Pr.Tk} {f : Int} {t : List UInt8} (h : w.ownsRow base 92 2 v (acc.length + 1) (tkL acc ++ [.int .i64 f, .string (bstr t)])) : w.ownsRow base 92 2 v (acc ++ [(⟨f, t⟩ : Pr.Tk)]).length (tkL (acc ++ [(⟨f, t⟩ : Pr.Tk)])) := by
 rw [List.length_append, tkL_app]; exact h
def TkA (w w' : World) (e : Ending) : Option (List Pr.Tk) → Prop
 | none => e = .panicked brk
 | some L => ∃ A cap, e = .returned (.slice A (L.length + 1) cap) ∧ w'.ownsRow w.heap.size 92 2 (.slice A (L.length + 1) cap) (L.length + 1) (tkL (L ++ [⟨0, []⟩]))
theorem TkA.bad {w w' : World} {x : Option (List Pr.Tk)} (h : none = x) : TkA w w' (.panicked brk) x := by subst h; exact rfl
theorem TkA.good {w w' : World} {v : Value} {L : List Pr.Tk} {x : Option (List Pr.Tk)} (h : some L = x) (ho : w'.ownsRow w.heap.size 92 2 v (L.length + 1) (tkL (L ++ [⟨0, []⟩]))) : TkA w w' (.returned v) x := by
 subst h
 obtain ⟨A, cap, rfl, -⟩ := own_at ho
 exact ⟨A, cap, rfl, ho⟩
theorem own_set {w : World} {base size n : Nat} {e : TypeId} {v : Value} {xs : List Value} (h : w.ownsRow base e size v n xs) {g i : Nat} (hg : v.ownBlock ≠ some g) (u : Value) : (w.setCell ⟨g, i, none⟩ u).ownsRow base e size v n xs := by
 obtain ⟨h1, h2⟩ := h
 refine ⟨h1, ?_⟩
 rcases h2 with h2 | ⟨k, cap, cur, rfl, hk, hh, hn, hcap, hsz, ht⟩
 ·exact .inl h2
 ·refine .inr ⟨k, cap, cur, rfl, hk, (Below.heap_setCell w ⟨g, i, none⟩ u k (fun e => hg (congrArg some e))).trans hh, hn, hcap, hsz, ht⟩
theorem mark_i64 {m : Int} (h : m = 0 ∨ m = 3 ∨ m = 4 ∨ m = 5) : True := trivial
theorem tokens_any (S : ByteArray) (w : World) (hs : S.size ≤ 1000000) :
  Calls Tryz.prog 60 #[.string S] w fun e w' => TkA w w' e (Pr.tkz S.data.toList) ∧ Below w.heap.size w w' := by
 have HDA : Hid (∀ k (h : k < S.size), S.data.toList.drop k = S[k] :: S.data.toList.drop (k + 1)) := hid (drop_at S)
 have HDE : Hid (∀ k, S.size ≤ k → S.data.toList.drop k = []) := hid (drop_end S)
 have HAT : Hid (∀ k (h : k < S.size), S.data.toList[k]? = some S[k]) := hid (at_str S)
 have HLE : Hid (S.data.toList.length = S.size) := hid (str_size S).symm
 have HEX : Hid (∀ a b, S.extract a b = bstr ((S.data.toList.drop a).take (b - a))) := hid (fun a b => str_eq (by rw [extract_list]; rfl))
 have HM := hid (fun c W => mark_any c W)
 obtain ⟨X, hX⟩ : ∃ X, Pr.tkz S.data.toList = X := ⟨_, rfl⟩
 have HX : Hid (Pr.tkA [] (S.data.toList.drop 0) = X) := hid (by rw [← hX, List.drop_zero]; unfold Pr.tkA; cases Pr.tkz S.data.toList <;> rfl)
 rw [hX]
 clear hX
 go_enter Tryz.func60, Tryz.ntmps60
 go_wp2_with fail
 go_loopw [3, 4] (fun out ix wr => ∃ (k : Nat) (acc : List Pr.Tk), k ≤ S.size ∧ ix = .int .i64 k ∧ wr.ownsRow w.heap.size 92 2 out acc.length (tkL acc) ∧ Hid (Pr.tkA acc (S.data.toList.drop k) = X) ∧ acc.length ≤ k ∧ Below w.heap.size w wr) (fun _ ix _ => S.size - (RowKit.intOf ix).toNat)
 case atStart => exact ⟨0, [], Nat.zero_le _, rfl, World.ownsRow_nil w w.heap.size 92 2, HX, Nat.le_refl _, Below.refl _ _⟩
 case round =>
  obtain ⟨k, acc, hk, rfl, ho, hrl, hol, hb⟩ := hrel
  have HO := hid ho
  have HB := hid hb
  have hbs := hb.size
  obtain ⟨A, cap, rfl, -⟩ := own_at ho
  clear ho hb
  by_cases hlt : k < S.size
  ·have hdl := HDA.out k hlt
   have hc2 := (S[k]'hlt).toNat_lt
   obtain ⟨c, hc⟩ : ∃ c, S[k]'hlt = c := ⟨_, rfl⟩
   by_cases h32 : S[k]'hlt = 32
   ·have hx := u8_eq (n := 32) rfl h32
    have HT : Hid (Pr.tkA acc (S.data.toList.drop (k + 1)) = X) := hid (by rw [← hrl.out, hdl, h32]; unfold Pr.tkA; rw [Pr.tkz_blank])
    clear hdl h32 hc
    go_wp2_with fail
    go_roundw
    case rel => exact ⟨k + 1, acc, by omega, by go_num, HO.out, HT, by omega, HB.out⟩
    case measure => simp [RowKit.intOf]; omega
   have hx := u8_ne (n := 32) rfl h32
   have HMC := hid (fun W => HM.out (S[k]'hlt) W)
   have hmr := Pr.markOf_byte (S[k]'hlt)
   by_cases hmk : Pr.markOf (S[k]'hlt) ≠ 0
   ·have HT : Hid (Pr.tkA (acc ++ [⟨Pr.markOf (S[k]'hlt), []⟩]) (S.data.toList.drop (k + 1)) = X) := hid (by rw [← hrl.out, hdl, Pr.tkA_cons (Pr.tkz_mark _ _ hmk)])
    generalize Pr.markOf (S[k]'hlt) = m at *
    have hm1 : (m != 0) = true := by rw [bne_iff_ne]; exact hmk
    clear hdl h32 hc hmk
    have HB2 := hid (HB.out.alloc hbs (.cells #[.int .i64 m, .string (bstr [])] 92))
    have HO2 := hid (own_bel HO.out ((Below.refl wr.heap.size wr).alloc (Nat.le_refl _) (.cells #[.int .i64 m, .string (bstr [])] 92)))
    have hs2 : w.heap.size ≤ (wr.alloc (.cells #[.int .i64 m, .string (bstr [])] 92)).heap.size := HB2.out.size
    go_wp2_with (first
     | (go_at_call 108; refine (HMC.out _).mono ?_; rintro e w' ⟨rfl, rfl⟩)
     | (at_builtin; refine app_row rowTk rfl _ _ rfl _ (.slice A acc.length cap) acc.length (tkL acc) _ w.heap.size rfl HO2.out _ 1 1 rfl (rd_tok wr m []) (tkV_one m []) hs2 (by omega) ?_; intro v2 w3 ho3 hg3 hb3 hw3))
    go_roundw
    case rel => exact ⟨k + 1, acc ++ [⟨m, []⟩], by omega, by go_num, own_tok ho3, HT, by rw [List.length_append]; simp; omega, hb3 _ HB2.out⟩
    case measure => simp [RowKit.intOf]; omega
   have hm0 : Pr.markOf (S[k]'hlt) = 0 := Classical.not_not.1 hmk
   by_cases h34 : S[k]'hlt = 34
   ·have hy := u8_eq (n := 34) rfl h34
    have HQ := hid (fun W => quoted_any S (k + 1) W hs (by omega))
    cases hq : Pr.quoteP [] (S.data.toList.drop (k + 1)) with
    | none =>
     have HE : Hid (none = X) := hid (by rw [← hrl.out, hdl, h34]; unfold Pr.tkA; rw [Pr.tkz_q0 _ hq]; rfl)
     rw [hq] at HQ
     rw [hm0] at HMC
     clear hdl h34 h32 hc hq hmk hm0 hmr
     go_wp2_with (go_at_call 108; refine (HMC.out _).mono ?_; rintro e w' ⟨rfl, rfl⟩)
     refine (HQ.out _).mono ?_
     rintro e w6 ⟨he, hb6⟩
     obtain rfl : e = .panicked brk := he
     exact ⟨rfl, TkA.bad HE.out, (HB.out.alloc hbs _).trans (hb6.mono (HB.out.alloc hbs _).size)⟩
    | some tq =>
     obtain ⟨t, q⟩ := tq
     rw [hq] at HQ
     rw [hm0] at HMC
     have H34 := hid h34
     have HDL := hid hdl
     have HQQ := hid hq
     clear h32 hc hmk hm0 hmr h34 hdl hq
     go_wp2_with (go_at_call 108; refine (HMC.out _).mono ?_; rintro e w' ⟨rfl, rfl⟩)
     refine (HQ.out _).mono ?_
     rintro e w6 ⟨⟨k2, hk2, rfl, rfl⟩, hb6⟩
     have hql := Pr.quoteP_len _ _ _ _ _ (Nat.le_refl _) HQQ.out
     have HT : Hid (Pr.tkA (acc ++ [⟨2, t⟩]) (S.data.toList.drop k2) = X) := hid (by rw [← hrl.out, HDL.out, H34.out, Pr.tkA_cons (Pr.tkz_q1 _ _ _ HQQ.out)])
     have HLT : Hid (k < k2) := hid (by
      rw [List.length_drop, List.length_drop, HLE.out] at hql
      omega)
     have HB5 := hid (HB.out.alloc hbs (.cells #[.int .i64 2, .string ⟨#[]⟩] 92))
     have hs5 : wr.heap.size + 1 ≤ w6.heap.size := by have h1 := hb6.size; rw [World.size_alloc] at h1; exact h1
     have HK6 : Hid (Blk w6 wr.heap.size 92 #[.int .i64 2, .string ⟨#[]⟩]) := hid ((Blk.new wr 92 #[.int .i64 2, .string ⟨#[]⟩]).below hb6 (by rw [World.size_alloc]; omega))
     have HB6 : Hid (Below w.heap.size w w6) := hid (HB5.out.trans (hb6.mono HB5.out.size))
     have HO6 := hid (own_bel (own_bel HO.out ((Below.refl wr.heap.size wr).alloc (Nat.le_refl _) (.cells #[.int .i64 2, .string ⟨#[]⟩] 92))) hb6)
     have hfz := HK6.out.frozen 1
     have HK7 : Hid (Blk (w6.setCell ⟨wr.heap.size, 1, none⟩ (.string (bstr t))) wr.heap.size 92 #[.int .i64 2, .string (bstr t)]) := hid (HK6.out.set_ 1 (.string (bstr t)))
     have HB7 : Hid (Below w.heap.size w (w6.setCell ⟨wr.heap.size, 1, none⟩ (.string (bstr t)))) := hid (HB6.out.setCell hbs _)
     have HO7 : Hid ((w6.setCell ⟨wr.heap.size, 1, none⟩ (.string (bstr t))).ownsRow w.heap.size 92 2 (.slice A acc.length cap) acc.length (tkL acc)) := hid (own_set HO6.out (fun e => by have := (HO.out.lt _ e).2; omega) _)
     have HSZ : Hid ((Tryz.prog.info? 92).map (·.size) = some (#[.int .i64 2, .string (bstr t)] : Array Value).size) := hid size_tok
     have hc6 := HK6.out.cell 1
     simp only [List.getElem?_toArray, List.getElem?_cons_succ, List.getElem?_cons_zero] at hc6
     clear hb6 hql hs5
     generalize hw7 : w6.setCell ⟨wr.heap.size, 1, none⟩ (.string (bstr t)) = w7 at *
     have HB8 := hid (HB7.out.alloc HB7.out.size (.cells #[.int .i64 2, .string (bstr t)] 92))
     have HO8 := hid (own_bel HO7.out ((Below.refl w7.heap.size w7).alloc (Nat.le_refl _) (.cells #[.int .i64 2, .string (bstr t)] 92)))
     have hs8 : w.heap.size ≤ (w7.alloc (.cells #[.int .i64 2, .string (bstr t)] 92)).heap.size := HB8.out.size
     go_wp2_with (first
      | (refine load_row_u (by rfl) 92 _ rfl wr.heap.size rfl 92 _ (0, 0) _ rfl HK7.out Tryz.underlying92 HSZ.out ?_)
      | (at_builtin; refine app_row rowTk rfl _ _ rfl _ (.slice A acc.length cap) acc.length (tkL acc) _ w.heap.size rfl HO8.out _ 1 1 rfl (rd_tok w7 2 t) (tkV_one 2 t) hs8 (by omega) ?_; intro v2 w3 ho3 hg3 hb3 hw3))
     go_roundw
     case rel => exact ⟨k2, acc ++ [⟨2, t⟩], hk2, by go_num, own_tok ho3, HT, by have := HLT.out; rw [List.length_append]; simp; omega, hb3 _ HB8.out⟩
     case measure => have := HLT.out; simp [RowKit.intOf]; omega
   ·have hy := u8_ne (n := 34) rfl h34
    rw [hm0] at HMC
    have HW : Hid (Pr.wordc (S[k]'hlt) = true) := hid (Pr.wordc_of h32 hmk h34)
    have HDL := hid hdl
    clear hdl h34 h32 hc hmk hm0 hmr
    go_wp2_with (go_at_call 108; refine (HMC.out _).mono ?_; rintro e w' ⟨rfl, rfl⟩)
    go_loop [4] (fun ix => ∃ j : Nat, k ≤ j ∧ j ≤ S.size ∧ ix = .int .i64 j ∧ Hid (∀ c ∈ (S.data.toList.drop k).take (j - k), Pr.wordc c = true)) (fun ix => S.size - (RowKit.intOf ix).toNat)
    case atStart => exact ⟨k, Nat.le_refl _, hk, rfl, hid (by rw [Nat.sub_self]; simp)⟩
    case round =>
     obtain ⟨j, hkj, hj, rfl, hall⟩ := hrel
     by_cases hgo : ∃ h : j < S.size, Pr.wordc S[j] = true
     ·obtain ⟨hltj, hwj⟩ := hgo
      have HN : Hid (∀ c ∈ (S.data.toList.drop k).take (j + 1 - k), Pr.wordc c = true) := hid (by
       have := Pr.while_next hall.out (k := j - k) (c := S[j]'hltj) (by rw [List.getElem?_drop, show k + (j - k) = j by omega]; exact HAT.out j hltj) hwj
       rwa [show j - k + 1 = j + 1 - k by omega] at this)
      have hwj2 := hwj
      unfold Pr.wordc at hwj2
      simp only [Bool.and_eq_true, bne_iff_ne, beq_iff_eq] at hwj2
      have hz1 := u8_bne (n := 32) rfl hwj2.1.1
      have hz2 := u8_bne (n := 34) rfl hwj2.1.2
      have HMJ := hid (fun W => HM.out (S[j]'hltj) W)
      rw [hwj2.2] at HMJ
      clear hwj hwj2
      go_wp2_with (go_at_call 108; refine (HMJ.out _).mono ?_; rintro e w' ⟨rfl, rfl⟩)
      go_round
      case rel => exact ⟨j + 1, by omega, by omega, by go_num, HN⟩
      case measure => simp [RowKit.intOf]; omega
     ·have HSTOP : Hid (∀ c, (S.data.toList.drop k)[j - k]? = some c → Pr.wordc c = false) := hid (fun c hc => by
       rw [List.getElem?_drop, show k + (j - k) = j by omega] at hc
       have hltj : j < S.size := by rw [← HLE.out]; exact (List.getElem?_eq_some_iff.1 hc).1
       rw [HAT.out j hltj] at hc
       injection hc with hc
       subst hc
       cases hww : Pr.wordc S[j] with
       | false => rfl
       | true => exact absurd ⟨hltj, hww⟩ hgo)
      obtain ⟨h3, h4⟩ := Pr.while_of (p := Pr.wordc) (l := S.data.toList.drop k) (k := j - k) hall.out HSTOP.out
      have hkj2 : k < j := by
       rcases Nat.lt_or_ge k j with h | h
       ·exact h
       ·have : j = k := by omega
        subst this
        exact absurd ⟨hlt, HW.out⟩ hgo
      have HT : Hid (Pr.tkA (acc ++ [⟨1, (S.data.toList.drop k).take (j - k)⟩]) (S.data.toList.drop j) = X) := hid (by
       rw [HDL.out] at h3 h4
       rw [← hrl.out, HDL.out, Pr.tkA_cons (Pr.tkz_w _ _ HW.out), h3, h4, ← HDL.out, List.drop_drop, show k + (j - k) = j by omega])
      have hxs := HEX.out k j
      obtain ⟨t, ht⟩ : ∃ t, (S.data.toList.drop k).take (j - k) = t := ⟨_, rfl⟩
      rw [ht] at HT hxs
      have HB8 := hid (HB.out.alloc hbs (.cells #[.int .i64 1, .string (bstr t)] 92))
      have HO8 := hid (own_bel HO.out ((Below.refl wr.heap.size wr).alloc (Nat.le_refl _) (.cells #[.int .i64 1, .string (bstr t)] 92)))
      have hs8 : w.heap.size ≤ (wr.alloc (.cells #[.int .i64 1, .string (bstr t)] 92)).heap.size := HB8.out.size
      have HGO := hid hgo
      clear h3 h4 ht hgo
      by_cases hltj : j < S.size
      ·by_cases hj1 : S[j]'hltj = 32
       ·have hz1 := u8_beq (n := 32) rfl hj1
        clear hj1
        go_wp2_with (first
         | (at_builtin; refine app_row rowTk rfl _ _ rfl _ (.slice A acc.length cap) acc.length (tkL acc) _ w.heap.size rfl HO8.out _ 1 1 rfl (rd_tok wr 1 t) (tkV_one 1 t) hs8 (by omega) ?_; intro v2 w3 ho3 hg3 hb3 hw3))
        go_roundw
        case rel => exact ⟨j, acc ++ [⟨1, t⟩], hj, by go_num, own_tok ho3, HT, by rw [List.length_append]; simp; omega, hb3 _ HB8.out⟩
        case measure => simp [RowKit.intOf]; omega
       ·have hz1 := u8_bne (n := 32) rfl hj1
        by_cases hj2 : S[j]'hltj = 34
        ·have hz2 := u8_beq (n := 34) rfl hj2
         clear hj1 hj2
         go_wp2_with (first
          | (at_builtin; refine app_row rowTk rfl _ _ rfl _ (.slice A acc.length cap) acc.length (tkL acc) _ w.heap.size rfl HO8.out _ 1 1 rfl (rd_tok wr 1 t) (tkV_one 1 t) hs8 (by omega) ?_; intro v2 w3 ho3 hg3 hb3 hw3))
         go_roundw
         case rel => exact ⟨j, acc ++ [⟨1, t⟩], hj, by go_num, own_tok ho3, HT, by rw [List.length_append]; simp; omega, hb3 _ HB8.out⟩
         case measure => simp [RowKit.intOf]; omega
        ·have hz2 := u8_bne (n := 34) rfl hj2
         have HMJ := hid (fun W => HM.out (S[j]'hltj) W)
         have hmj : Pr.markOf (S[j]'hltj) ≠ 0 := fun e => HGO.out ⟨hltj, Pr.wordc_of hj1 (fun h => h e) hj2⟩
         generalize Pr.markOf (S[j]'hltj) = mj at *
         have hz3 : (mj == 0) = false := by rw [beq_eq_false_iff_ne]; exact hmj
         clear hj1 hj2 hmj
         go_wp2_with (first
          | (go_at_call 108; refine (HMJ.out _).mono ?_; rintro e w' ⟨rfl, rfl⟩)
          | (at_builtin; refine app_row rowTk rfl _ _ rfl _ (.slice A acc.length cap) acc.length (tkL acc) _ w.heap.size rfl HO8.out _ 1 1 rfl (rd_tok wr 1 t) (tkV_one 1 t) hs8 (by omega) ?_; intro v2 w3 ho3 hg3 hb3 hw3))
         go_roundw
         case rel => exact ⟨j, acc ++ [⟨1, t⟩], hj, by go_num, own_tok ho3, HT, by rw [List.length_append]; simp; omega, hb3 _ HB8.out⟩
         case measure => simp [RowKit.intOf]; omega
      ·go_wp2_with (first
        | (at_builtin; refine app_row rowTk rfl _ _ rfl _ (.slice A acc.length cap) acc.length (tkL acc) _ w.heap.size rfl HO8.out _ 1 1 rfl (rd_tok wr 1 t) (tkV_one 1 t) hs8 (by omega) ?_; intro v2 w3 ho3 hg3 hb3 hw3))
       go_roundw
       case rel => exact ⟨j, acc ++ [⟨1, t⟩], hj, by go_num, own_tok ho3, HT, by rw [List.length_append]; simp; omega, hb3 _ HB8.out⟩
       case measure => simp [RowKit.intOf]; omega
  ·have HE : Hid (some acc = X) := hid (by rw [← hrl.out, HDE.out k (by omega), Pr.tkA_nil])
   have HB2 := hid (HB.out.alloc hbs (.cells #[.int .i64 0, .string (bstr [])] 92))
   have HO2 := hid (own_bel HO.out ((Below.refl wr.heap.size wr).alloc (Nat.le_refl _) (.cells #[.int .i64 0, .string (bstr [])] 92)))
   have hs2 : w.heap.size ≤ (wr.alloc (.cells #[.int .i64 0, .string (bstr [])] 92)).heap.size := HB2.out.size
   go_wp2_with (at_builtin; refine app_row rowTk rfl _ _ rfl _ (.slice A acc.length cap) acc.length (tkL acc) _ w.heap.size rfl HO2.out _ 1 1 rfl (rd_tok wr 0 []) (tkV_one 0 []) hs2 (by omega) ?_; intro v2 w3 ho3 hg3 hb3 hw3)
   go_ret
   exact ⟨TkA.good HE.out (by rw [tkL_app]; exact ho3), hb3 _ HB2.out⟩
end Go.Proofs.YtchkiegehejfmaaGreatDoor
