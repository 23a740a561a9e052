/- The texts Ax4, Al3, Rb3 of this proof, one behind the other. -/
import Derived.Test.YteadlcncnhbmjaaGreatDoorMsay
import Derived.Test.YteadlcncnhbmjaaGreatDoorMsar
import Derived.Test.YteadlcncnhbmjaaGreatDoorMsaq
import Derived.Test.YteadlcncnhbmjaaGreatDoorMsax
import Derived.Test.YteadlcncnhbmjaaGreatDoorMsau
set_option linter.unusedSimpArgs false
set_option maxHeartbeats 16000000
set_option maxRecDepth 100000
set_option linter.unusedVariables false
namespace Go.Proofs.YteadlcncnhbmjaaGreatDoor
open Go.RowKit Go.Lib
theorem QL (a b : Nat) (ha : a < 4611686018427387904) (hb : b < 4611686018427387904) : Int.tmod (wrap64 ((a : Int) + (b : Int))) 4611686018427387904 = (((a + b) % 4611686018427387904 : Nat) : Int) := by
 have e : wrap64 ((a : Int) + (b : Int)) = (a : Int) + b := by unfold wrap64; omega
 rw [e, Int.tmod_eq_emod_of_nonneg (by omega)];omega
theorem NJ (s : ByteArray) (w : World) (hs : s.size ≤ 100000) :
  Calls Tryz.prog 40 #[.string s] w fun e w' => e = .returned (.int .i64 (sums (Ar.lines s.data.toList) : Nat)) ∧ Below w.heap.size w w' := by
 have HRL0 := hid (H7 s w (by omega));have HSH := hid (Ar.Cj s.data.toList);have hll := Ar.DC s.data.toList;have hsz : s.data.toList.length = s.size := AI s;rw [hsz] at hll;have HSZ := hid hsz;clear hsz;generalize hLL : Ar.lines s.data.toList = L at *;have HLL := hid hLL;clear hLL;go_enter Tryz.func40, Tryz.ntmps40;go_wp2_with fail;refine HRL0.out.mono ?_;rintro e w1 ⟨⟨v1, rfl, ho1⟩, hb1⟩;obtain ⟨A1, c1, rfl⟩ := Ax ho1;have HRL := hid (Rd.of_own ho1);have HB1 := hid hb1;have hs1 := hb1.size;clear ho1 hb1;go_wp2_with fail
 go_loopw [4, 5] (fun t ix wr => ∃ k : Nat, k ≤ L.length ∧ ix = .int .i64 k ∧ t = .int .i64 ((L.take k).foldl sumL 0 : Nat) ∧ Below w1.heap.size w1 wr) (fun _ ix _ => L.length - (RowKit.intOf ix).toNat)
 case atStart => exact ⟨0, by omega, rfl, rfl, Below.refl _ _⟩
 case round =>
  obtain ⟨k, hk, rfl, rfl, hb⟩ := hrel;have HB := hid hb;have hbs := hb.size;clear hb;have hT := KZ (L.take k) 0 (by omega);by_cases hlt : k < L.length
  ·obtain ⟨ba, oa, x, rfl, hx, hc0⟩ := (HRL.out.below HB.out).str_at hlt;have HXK := hid (BF hx);have HXL : Hid (x.length ≤ s.size) := hid (by have := HSH.out x (List.mem_of_getElem? hx); rw [HSZ.out] at this; exact this);have hcp := fun W => G9 x [101, 118, 101, 110, 116, 32] W (by have := HXL.out; omega) (by decide)
   rw [show bstr [101, 118, 101, 110, 116, 32] = (⟨#[101, 118, 101, 110, 116, 32]⟩ : ByteArray) from rfl, show ([101, 118, 101, 110, 116, 32] : List UInt8) = Ar.evW from rfl] at hcp;have HCP := hid hcp;clear hx hcp;by_cases hp : hasPrefix x Ar.evW = true
   ·have HS := hid (show sumL ((L.take k).foldl sumL 0) x = ((L.take k).foldl sumL 0 + sumB (x.drop 6)) % 4611686018427387904 from if_pos hp);have HP := hid hp;clear hp;generalize bstr x = X at *;go_wp2_with fail;refine (HCP.out _).mono ?_;rintro e w2 ⟨rfl, rfl⟩;rw [HP.out, if_pos rfl, show Ar.evW.length = 6 from rfl];have hcv := Ko wr (bstr (x.drop 6));have hsl := MF (x.drop 6);generalize hD : x.drop 6 = D at *;generalize hcap : grownCap wr (bstr D).size 0 5 = cap at *;have HRD := hid (Rd.bytes_new wr.drew (bstr D) cap ((bytesRow (bstr D) cap).size, (bytesRow (bstr D) cap).size + 1));have HDL : Hid (D.length ≤ 1000000) := hid (by rw [← hD, List.length_drop]; have := HXL.out; omega);have hsD : (bstr D).size = D.length := Ab D;clear hD hcap;go_wp2_with fail;refine (Ns _ cap D _ HRD.out HDL.out).mono ?_;rintro e w3 ⟨rfl, rfl⟩;have key := QL ((L.take k).foldl sumL 0) (sumB D) hT hsl;obtain ⟨R, hR⟩ : ∃ R : Nat, ((L.take k).foldl sumL 0 + sumB D) % 4611686018427387904 = R := ⟨_, rfl⟩;rw [hR] at key;have HRR : Hid ((L.take (k + 1)).foldl sumL 0 = R) := hid (by rw [HXK.out, List.foldl_append, List.foldl_cons, List.foldl_nil, HS.out]; exact hR);clear hT hsl hR HS HP HXK;generalize (L.take k).foldl sumL 0 = T at *;generalize sumB D = S at *;go_wp2_with fail
    go_roundw
    case rel => exact ⟨k + 1, by omega, by go_num, by rw [HRR.out], (HB.out.alloc hbs _).drew⟩
    case measure => simp [RowKit.intOf]; omega
   ·have hp' : hasPrefix x Ar.evW = false := by simpa using hp
    have HS := hid (show sumL ((L.take k).foldl sumL 0) x = (L.take k).foldl sumL 0 from if_neg hp);have HP := hid hp';clear hp hp';generalize bstr x = X at *;go_wp2_with fail;refine (HCP.out _).mono ?_;rintro e w2 ⟨rfl, rfl⟩;rw [HP.out];go_wp2_with fail
    go_roundw
    case rel => exact ⟨k + 1, by omega, by go_num, by rw [HXK.out, List.foldl_append, List.foldl_cons, List.foldl_nil, HS.out], HB.out⟩
    case measure => simp [RowKit.intOf]; omega
  ·obtain rfl : k = L.length := by omega
   have HF : Hid (Below w.heap.size w wr) := hid (HB1.out.trans (HB.out.mono (by omega)));rw [List.take_length];go_wp2_with fail;go_ret;exact ⟨Cq (by rfl), HF.out⟩
theorem EvOf.set {ok : Nat → Prop} {w : World} {cells : Array Value} {e : List Ar.FV} (h : EvOf ok w cells e) {i : Nat} {v : Ar.FV} {c : Value} (hi : i < 29) (hv : v.kind = Ar.Bs i ∧ v.Ok) (hc : CellOf ok w c v) : EvOf ok w (cells.setIfInBounds i c) (e.set i v) := by
 refine ⟨by rw [Array.size_setIfInBounds]; exact h.size, h.fits.set hv, fun j u hj => ?_⟩;by_cases hji : j = i
 ·subst hji;rw [List.getElem?_set_self (by rw [h.len]; exact hi)] at hj;injection hj with hj;subst hj;exact ⟨c, by rw [Array.getElem?_setIfInBounds, if_pos rfl, if_pos (by rw [h.size]; exact hi)], hc⟩
 ·rw [List.getElem?_set_ne (Ne.symm hji)] at hj;obtain ⟨c', h1, h2⟩ := h.cell j u hj;exact ⟨c', by rw [Array.getElem?_setIfInBounds, if_neg (Ne.symm hji)]; exact h1, h2⟩
def e0C (P : Nat) : Array Value := ((((zeroEv.setIfInBounds 0 (.int .i64 5)).setIfInBounds 3 (.int .i64 11)).setIfInBounds 8 (.slice (some ⟨P, 0, none⟩) 2 2)).setIfInBounds 10 (.string (bstr [104, 105])))
theorem e0_of {w : World} {P : Nat} (h : Blk w P 3 #[.int .i64 3, .int .i64 4]) : EvOf (fun b => True) w (e0C P) Ar.e0 := by
 unfold e0C Ar.e0;have i5 : Ar.inInt 5 := by unfold Ar.inInt; omega
 have i11 : Ar.inInt 11 := by unfold Ar.inInt; omega
 have hn : (Ar.FV.nums [3, 4]).Ok := by
  intro n hn;simp only [List.mem_cons, List.not_mem_nil, or_false] at hn;unfold Ar.inInt;rcases hn with rfl | rfl <;> omega
 refine EvOf.set (EvOf.set (EvOf.set (v := .num 11) (EvOf.set (v := .num 5) (GH _ w) (by decide) ⟨rfl, i5⟩ rfl) (by decide) ⟨rfl, i11⟩ rfl) (by decide) ⟨rfl, hn⟩ ?_) (by decide) ⟨rfl, trivial⟩ rfl;exact ⟨some ⟨P, 0, none⟩, 2, rfl, by have := Rd.of_blk (vs := intL [3, 4]) h; exact this, fun _ _ _ => trivial⟩
theorem Blk.new1 (w : World) (o : Obj) (t : TypeId) (cs : Array Value) : Blk ((w.alloc o).alloc (.cells cs t)) (w.heap.size + 1) t cs := by
 have h := Blk.new (w.alloc o) t cs;rwa [World.size_alloc] at h
theorem Ld (P : Nat) : (e0C P).size = 29 := by unfold e0C; simp only [Array.size_setIfInBounds]; rfl
theorem room0_fine : Fine Ar.room0 := by
 have h0 : Ar.inInt 0 := by unfold Ar.inInt; omega
 have h5 : Ar.inInt 5 := by unfold Ar.inInt; omega
 have h4 : Ar.inInt 4 := by unfold Ar.inInt; omega
 have hr : ∀ x ∈ Ar.room0.rows, Ar.inInt x.1 ∧ Ar.inInt x.2.1 ∧ Ar.inInt x.2.2.1 := by
  intro x hx;have : x = (0, 5, 4, false) := List.mem_singleton.1 hx;subst this;exact ⟨h0, h5, h4⟩
 exact ⟨h0, by decide, (fun e h => by cases h), hr, (fun e h => by cases h), (fun e h => by cases h), (fun e h => by cases h), (fun e h => by cases h), (fun e h => by cases h), by decide, by decide, by decide, by decide⟩
theorem Pl : Ar.room0.Ok := ⟨room0_fine.ok, (fun e h => by cases h), room0_fine.row, (fun e h => by cases h), (fun e h => by cases h), (fun e h => by cases h), (fun e h => by cases h), (fun e h => by cases h)⟩
theorem Oe (w : World) (hR : Ready w) : Calls Tryz.prog 13 #[] w fun e w' => e = .returned (.bool true) ∧ Below w.heap.size w w' := by
 have HRY := hid hR;have hu : uqV (Ar.At (⟨#[34, 98, 34, 99]⟩ : ByteArray).data.toList) = .tuple #[.string (bstr [98]), .string (bstr [99]), .bool true] := by rw [show (⟨#[34, 98, 34, 99]⟩ : ByteArray).data.toList = [34, 98, 34, 99] from rfl, Ar.unq0]; rfl
 have HU := hid (Hj ⟨#[34, 98, 34, 99]⟩ w (by decide));rw [hu] at HU;clear hR hu;go_enter Tryz.func13, Tryz.ntmps13;go_wp2_with fail;refine HU.out.mono ?_;rintro e w1 ⟨rfl, hb1⟩;have HB1 := hid hb1;clear hb1;have HS0 : Hid ((Tryz.prog.info? 40).map (·.size) = some (e0C w1.heap.size).size) := hid (by rw [Aj, Ld]);have HI : Hid (Blk (w1.alloc (.cells #[.int .i64 3, .int .i64 4] 3)) w1.heap.size 3 #[.int .i64 3, .int .i64 4]) := hid (Blk.new w1 _ _);have HO0 : Hid ((e0C w1.heap.size).all (·.oneCell') = true) := hid (e0_of HI.out).one;go_wp2_with ((with_reducible refine AF rfl 40 _ _ rfl (w1.heap.size + 1) (e0C w1.heap.size) ?_ ?_ 40 _ (Blk.new1 w1 (.cells #[.int .i64 3, .int .i64 4] 3) 40 _) HS0.out ?_ HO0.out ?_); rfl; rfl; (rw [Ld]; rfl); intro w2 hk2 hs2 hbl2);have hzz := hbl2 (w1.heap.size + 1) (Nat.le_refl _);have hal : ∀ cs, Below (w1.heap.size + 1) (w1.alloc (.cells #[.int .i64 3, .int .i64 4] 3)) ((w1.alloc (.cells #[.int .i64 3, .int .i64 4] 3)).alloc (.cells cs 40)) := fun cs => (Below.refl _ _).alloc (by rw [World.size_alloc]; exact Nat.le_refl _) _
 have hz2 := (hal _).trans hzz;have HB2 := hid (HB1.out.trans (((Below.refl w1.heap.size w1).alloc (Nat.le_refl _) (.cells #[.int .i64 3, .int .i64 4] 3)).trans (hz2.mono (Nat.le_succ _)) |>.mono HB1.out.size));have HE2 : Hid (EvOf (fun b => b < w2.heap.size) w2 (e0C w1.heap.size) Ar.e0) := hid ((e0_of ((hz2.block w1.heap.size (Nat.lt_succ_self _)).trans HI.out)).keep (fun b _ hb => ⟨hb, rfl⟩));have HK2 := hid hk2;have hs2' : w1.heap.size + 1 < w2.heap.size := hk2.lt;have HRE := hid (FU (bstr Ar.line0) w2 (by decide) (HRY.out.below HB2.out));rw [show (bstr Ar.line0).data.toList = Ar.line0 from rfl] at HRE;clear hk2 hs2 hbl2 hzz hal hz2;refine HRE.out.mono ?_;rintro r w3 ⟨hrev, hb3⟩;have hrev2 : ∃ cells, r = .returned (.tuple #[.agg cells, .int .i64 0]) ∧ EvOf (fun b => w2.heap.size ≤ b) w3 cells Ar.e0 := by
  rcases hrev with ⟨e, cells, hp, h1, h2⟩ | ⟨hp, _⟩
  ·rw [Ar.Hi] at hp;injection hp with hp;subst hp;exact ⟨cells, h1, h2⟩
  ·rw [Ar.Hi] at hp;cases hp
 obtain ⟨cells, rfl, hev3⟩ := hrev2;have HE3 := hid hev3;have HB3 := hid (HB2.out.trans (hb3.mono HB2.out.size));have HK3 := hid (HK2.out.below hb3 HK2.out.lt);have HX3 := hid (HE2.out.below hb3);have HS3 : Hid ((Tryz.prog.info? 40).map (·.size) = some cells.size) := hid (by rw [Aj, hev3.size]);have HO3 := hid hev3.one;have HZ3 : Hid (zeroEv.size = cells.size) := hid (by rw [hev3.size]; rfl);clear hrev hb3 hev3;go_wp2_with ((with_reducible refine AF rfl 40 _ _ rfl w3.heap.size cells ?_ ?_ 40 _ (Blk.new w3 40 _) HS3.out ?_ HO3.out ?_); rfl; rfl; exact HZ3.out; intro w4 hk4 hs4 hbl4);have hz4 := ((Below.refl w3.heap.size w3).alloc (Nat.le_refl _) (.cells zeroEv 40)).trans (hbl4 w3.heap.size (Nat.le_refl _));have HB4 := hid (HB3.out.trans (hz4.mono HB3.out.size));have HK4 := hid (HK3.out.below hz4 HK3.out.lt);have HX4 := hid (HX3.out.below hz4);have HF4 := hid hk4;have HE4 := hid (HE3.out.below hz4);have hrr : Ar.read (bstr Ar.text0).data.toList = .inl Ar.room0 := by
  have h1 := Ar.Rt Ar.room0 Pl;have h2 : Ar.Dt Ar.room0 = Ar.text0 := by decide
  exact (congrArg Ar.read h2.symm).trans h1
 have HRD := hid (Kt (bstr Ar.text0) w4 (by decide) (fun l hl => Nat.le_trans (Ar.Cj _ l hl) (by decide)) (HRY.out.below HB4.out));rw [hrr] at HRD;have h34 := hz4.size;have h44 := hk4.lt;clear hk4 hs4 hbl4 hz4;refine HRD.out.mono ?_;rintro r w5 ⟨hrd, hb5⟩;obtain ⟨cE, AR, cR, cW, cH, cS, cC, cT, rfl, ho5, hon5⟩ : ∃ cE AR cR cW cH cS cC cT, r = .returned (.tuple #[.agg #[.string (bstr [33, 114, 58, 97]), cE, .slice AR 1 cR, cW, cH, cS, .int .i64 0, cC, cT], .int .i64 0, .int .i64 0]) ∧ RoomV w5 w5.heap.size Ar.room0 cE (.slice AR 1 cR) cW cH cS cC cT ∧ (#[.string (bstr [33, 114, 58, 97]), cE, .slice AR 1 cR, cW, cH, cS, .int .i64 0, cC, cT] : Array Value).all (·.oneCell') = true := by
  rcases hrd with ⟨y, cells, hy, h1, h2⟩ | ⟨n, hy, -⟩
  ·injection hy with hy;subst hy;have h3 := h2.one;obtain ⟨cE, cR, cW, cH, cS, cC, cT, rfl, h⟩ := h2;obtain ⟨AR, kR, rfl, _⟩ := h.row;exact ⟨cE, AR, kR, cW, cH, cS, cC, cT, h1, h, h3⟩
  ·cases hy
 have HON5 := hid hon5;have HO5 := hid ho5;have HB5 := hid (HB4.out.trans (hb5.mono HB4.out.size));have HK5 := hid (HK4.out.below hb5 HK4.out.lt);have HX5 := hid (HX4.out.below hb5);have HF5 := hid (HF4.out.below hb5 HF4.out.lt);have HE5 := hid (HE4.out.below hb5);have h45 := hb5.size;clear ho5 hb5 hon5 hrd hrr;go_wp2_with (first | ((with_reducible refine AF rfl 55 _ _ rfl w5.heap.size #[.string (bstr [33, 114, 58, 97]), cE, .slice AR 1 cR, cW, cH, cS, .int .i64 0, cC, cT] ?_ ?_ 55 _ (Blk.new w5 55 _) (by kernel_rfl) ?_ HON5.out ?_); rfl; rfl; rfl; intro w6 hk6 hs6 hbl6) | (refine wpList_load_row rfl 55 _ rfl w5.heap.size rfl 55 #[.string (bstr [33, 114, 58, 97]), cE, .slice AR 1 cR, cW, cH, cS, .int .i64 0, cC, cT] (0, 0) _ hk6 Tryz.underlying55 rfl (by kernel_rfl) ?_));have hz6 := ((Below.refl w5.heap.size w5).alloc (Nat.le_refl _) (.cells zRm 55)).trans (hbl6 w5.heap.size (Nat.le_refl _));have HB6 := hid (HB5.out.trans (hz6.mono HB5.out.size));have HK6 := hid (HK5.out.below hz6 HK5.out.lt);have HX6 := hid (HX5.out.below hz6);have HF6 := hid (HF5.out.below hz6 HF5.out.lt);have HE6 := hid (HE5.out.below hz6);have HG6 := hid hk6;have h56 := hz6.size;have h66 := hk6.lt;have HWR := hid (Jf Ar.room0 cE (.slice AR 1 cR) cW cH cS cC cT w6 ((HO5.out.keep (Nat.le_refl _) hz6).keep hz6.size (Below.refl _ _)) room0_fine);clear hk6 hs6 hbl6 hz6;refine HWR.out.mono ?_;rintro r w7 ⟨hwa, hb7⟩;have hwa2 : r = .returned (.tuple #[.string (bstr Ar.text0), .int .i64 0]) := by
  rcases hwa with ⟨t, ht, h1⟩ | ⟨ht, _⟩
  ·rw [Ar.Qm] at ht;injection ht with ht;rw [h1, ← ht]
  ·rw [Ar.Qm] at ht;cases ht
 subst hwa2;have HB7 := hid (HB6.out.trans (hb7.mono HB6.out.size));have HK7 := hid (HK6.out.below hb7 HK6.out.lt);have HX7 := hid (HX6.out.below hb7);have HF7 := hid (HF6.out.below hb7 HF6.out.lt);have HE7 := hid (HE6.out.below hb7);have HG7 := hid (HG6.out.below hb7 HG6.out.lt);have h67 := hb7.size;have HDF := hid (PS (bstr Ar.ta) (bstr Ar.tb) w7 (by decide) (by decide) (HRY.out.below HB7.out) (by decide) (by decide));rw [show (bstr Ar.ta).data.toList = Ar.ta from rfl, show (bstr Ar.tb).data.toList = Ar.tb from rfl, show encs (Ar.diff (Ar.lines Ar.ta) (Ar.lines Ar.tb)) = Ar.td from Ar.QC] at HDF;clear hb7 hwa;go_wp2_with fail;refine HDF.out.mono ?_;rintro r w8 ⟨v8, rfl, ho8, hb8⟩;obtain ⟨A8, c8, rfl⟩ := Ax ho8;have HB8 := hid (HB7.out.trans (hb8.mono HB7.out.size));have HK8 := hid (HK7.out.below hb8 HK7.out.lt);have HX8 := hid (HX7.out.below hb8);have HF8 := hid (HF7.out.below hb8 HF7.out.lt);have HE8 := hid (HE7.out.below hb8);have HG8 := hid (HG7.out.below hb8 HG7.out.lt);have HD8 := hid (Rd.of_own ho8);have h78 := hb8.size;have HAP := hid (Ot (bstr Ar.ta) A8 c8 Ar.td w8 HD8.out (by decide) (by decide) (by decide) (HRY.out.below HB8.out));rw [show (bstr Ar.ta).data.toList = Ar.ta from rfl, Ar.OL] at HAP;clear ho8 hb8;go_wp2_with fail;refine HAP.out.mono ?_;rintro r w9 ⟨hap, hb9⟩;simp only [List.append_eq, List.cons_append, List.nil_append] at *;have hap2 : r = .returned (.tuple #[.string (bstr Ar.tb), .bool true]) := by
  rcases hap with ⟨t, ht, h1⟩ | ⟨ht, _⟩
  ·injection ht with ht;rw [h1, ← ht]
  ·cases ht
 subst hap2;have HB9 := hid (HB8.out.trans (hb9.mono HB8.out.size));have HK9 := hid (HK8.out.below hb9 HK8.out.lt);have HX9 := hid (HX8.out.below hb9);have HF9 := hid (HF8.out.below hb9 HF8.out.lt);have HE9 := hid (HE8.out.below hb9);have HG9 := hid (HG8.out.below hb9 HG8.out.lt);have HD9 := hid (HD8.out.below hb9);clear hb9 hap;have s1 : ((bstr [98]).toList == [98]) = true := by rw [Ay]; rfl
 have s2 : ((bstr [99]).toList == [99]) = true := by rw [Ay]; rfl
 have s3 : ((bstr [34, 97, 92, 110, 92, 120, 102, 102, 34]).toList == [34, 97, 92, 110, 92, 120, 102, 102, 34]) = true := by rw [Ay]; decide
 have s4 : ((bstr Ar.line0).toList == [105, 100, 61, 53, 32, 107, 105, 110, 100, 61, 49, 49, 32, 112, 114, 101, 118, 61, 51, 44, 52, 32, 116, 101, 120, 116, 61, 34, 104, 105, 34]) = true := by rw [Ay]; exact beq_self_eq_true _
 have s5 : ((bstr Ar.text0).toList == [114, 111, 111, 109, 32, 34, 33, 114, 58, 97, 34, 10, 114, 111, 119, 32, 48, 32, 53, 32, 52, 10]) = true := by rw [Ay]; exact beq_self_eq_true _
 have s6 : ((bstr Ar.tb).toList == [97, 10, 99, 10, 100]) = true := by rw [Ay]; exact beq_self_eq_true _
 have s7 : ((bstr [33, 114, 58, 97]).toList == [33, 114, 58, 97]) = true := by rw [Ay]; rfl
 have HQ := hid (C5 ⟨#[97, 10, 255]⟩ w9 (by decide));rw [show (⟨#[97, 10, 255]⟩ : ByteArray).data.toList = [97, 10, 255] from rfl, Ar.RP] at HQ;have hES : Hid ((Tryz.prog.info? 40).map (·.size) = some (e0C w1.heap.size).size) := HS0;go_wp2_with fail;refine HQ.out.mono ?_;rintro r w10 ⟨rfl, hb10⟩;have HB10 := hid (HB9.out.trans (hb10.mono HB9.out.size));have HK10 := hid (HK9.out.below hb10 HK9.out.lt);have HX10 := hid (HX9.out.below hb10);have HF10 := hid (HF9.out.below hb10 HF9.out.lt);have HE10 := hid (HE9.out.below hb10);have HG10 := hid (HG9.out.below hb10 HG9.out.lt);have HD10 := hid (HD9.out.below hb10);clear hb10;go_wp2_with (refine B0 (by rfl) 40 _ rfl (w1.heap.size + 1) rfl 40 (e0C w1.heap.size) (0, 0) _ (by rfl) HK10.out Tryz.underlying40 HS0.out ?_);refine (Eq _ (e0C w1.heap.size) Ar.e0 w10 HX10.out Ar.Qr (by rw [Ar.JP]; decide)).mono ?_;rintro r w11 ⟨rfl, hb11⟩;rw [Ar.JP];have HB11 := hid (HB10.out.trans (hb11.mono HB10.out.size));have HK11 := hid (HK10.out.below hb11 HK10.out.lt);have HX11 := hid (HX10.out.below hb11);have HF11 := hid (HF10.out.below hb11 HF10.out.lt);have HE11 := hid (HE10.out.below hb11);have HG11 := hid (HG10.out.below hb11 HG10.out.lt);have HD11 := hid (HD10.out.below hb11);clear hb11;go_wp2_with (first | (refine B0 (by rfl) 40 _ rfl (w1.heap.size + 1) rfl 40 (e0C w1.heap.size) (0, 0) _ (by rfl) HK11.out Tryz.underlying40 HS0.out ?_) | (refine B0 (by rfl) 40 _ rfl w3.heap.size rfl 40 cells (0, 0) _ (by rfl) HF11.out Tryz.underlying40 HS3.out ?_));refine (M4 HX11.out HE11.out Ar.Qr).mono ?_;rintro r w12 ⟨rfl, hb12⟩;have HB12 := hid (HB11.out.trans (hb12.mono HB11.out.size));have HK12 := hid (HK11.out.below hb12 HK11.out.lt);have HX12 := hid (HX11.out.below hb12);have HF12 := hid (HF11.out.below hb12 HF11.out.lt);have HE12 := hid (HE11.out.below hb12);have HG12 := hid (HG11.out.below hb12 HG11.out.lt);have HD12 := hid (HD11.out.below hb12);clear hb12;have hg0 := HG12.out.cell 0;change _ = some (Value.string (bstr [33, 114, 58, 97])) at hg0;have hg2 := HG12.out.cell 2;change _ = some (Value.slice AR 1 cR) at hg2;have HTD := hid (Ks A8 (some ⟨w12.heap.size, 0, none⟩) c8 4 Ar.td (w12.alloc (.cells (strL Ar.td).toArray 9)) (HD12.out.below ((Below.refl _ _).alloc (Nat.le_refl _) _)) (Rd.litS w12 Ar.td) (by decide));go_wp2_with fail;refine HTD.out.mono ?_;rintro r w13 ⟨rfl, q13, rfl⟩;have HB13 : Hid (Below w.heap.size w ((w12.alloc (.cells (strL Ar.td).toArray 9)).drewN q13)) := hid (below_drewN (HB12.out.alloc HB12.out.size _) q13);generalize hw13 : (w12.alloc (.cells (strL Ar.td).toArray 9)).drewN q13 = w13 at *;have hln := De ⟨#[]⟩ w13 (by decide) (HRY.out.below HB13.out);rw [show Ar.lines (⟨#[]⟩ : ByteArray).data.toList = [[]] from rfl, show ([[]] : List (List UInt8)).length = 1 from rfl] at hln;have HLN := hid hln;clear hln hw13;go_wp2_with fail;refine HLN.out.mono ?_;rintro r w14 ⟨rfl, rfl⟩;have HB14 : Hid (Below w.heap.size w (w13.alloc (.cells (strL [[]]).toArray 9))) := hid (HB13.out.alloc HB13.out.size _);generalize hw14 : w13.alloc (.cells (strL [[]]).toArray 9) = w14 at *;have HS1 := hid (PO ⟨#[101, 118, 101, 110, 116, 32, 105, 100, 61, 53, 10]⟩ w14 (by decide) (HRY.out.below HB14.out));clear hw14;obtain ⟨N, hN⟩ : ∃ N : Nat, sums (Ar.lines (⟨#[101, 118, 101, 110, 116, 32, 105, 100, 61, 53, 10]⟩ : ByteArray).data.toList) = N := ⟨_, rfl⟩;rw [hN] at HS1;go_wp2_with fail;refine HS1.out.mono ?_;rintro r w15 ⟨rfl, hb15⟩;have HB15 := hid (HB14.out.trans (hb15.mono HB14.out.size));have HS2 := hid (NJ ⟨#[101, 118, 101, 110, 116, 32, 105, 100, 61, 53, 10]⟩ w15 (by decide));rw [hN] at HS2;have hNN : ((N : Int) == (N : Int)) = true := beq_self_eq_true _;clear hb15 hN;go_wp2_with fail;refine HS2.out.mono ?_;rintro r w16 ⟨rfl, hb16⟩;have HB16 := hid (HB15.out.trans (hb16.mono HB15.out.size));clear hb16;go_wp2_with fail;go_ret;exact ⟨rfl, HB16.out⟩
end Go.Proofs.YteadlcncnhbmjaaGreatDoor
namespace Ar
theorem Kq (sep : Str) : ∀ (L : List Str) (l : Str), l ∈ L → l.length ≤ (join sep L).length
 | [], l, h => by cases h
 | [x], l, h => by rw [List.mem_singleton.1 h]; exact Nat.le_refl _
 | x :: y :: L, l, h => by
  unfold join;rw [List.length_append, List.length_append];rcases List.mem_cons.1 h with rfl | h
  ·omega
  ·have := Kq sep (y :: L) l h;omega
theorem KK : ∀ L : List Str, L.length ≤ (join [10] L).length + 1
 | [] => Nat.zero_le _
 | [x] => by rw [List.length_singleton]; omega
 | x :: y :: L => by
  unfold join;rw [List.length_append, List.length_append, List.length_cons, List.length_singleton];have := KK (y :: L);omega
theorem M2 : ∀ s : Str, s.length ≤ (s.flatMap esc).length
 | [] => Nat.zero_le _
 | c :: s => by
  rw [List.flatMap_cons, List.length_append, List.length_cons];have h1 := (Hv c).1;have h2 := M2 s;omega
theorem Gk (s : Str) : s.length ≤ (quote s).length := by
 have := M2 s;unfold quote;rw [List.length_cons, List.length_append];omega
theorem K6 (w s : Str) : s.length ≤ (after w s).length := by
 unfold after;split
 ·rename_i h;rw [h]; exact Nat.zero_le _
 ·rw [List.length_append, List.length_cons]; omega
theorem QI (n : Int) : itoa n ≠ [] := by
 unfold itoa;split
 ·exact List.cons_ne_nil _ _
 ·exact Du _
end Ar
namespace Go.Proofs.YteadlcncnhbmjaaGreatDoor
open Go.RowKit Go.Lib
def Few (r : Ar.Rm) : Prop := r.events.length ≤ 1000000 ∧ r.rows.length ≤ 1000000 ∧ r.waiting.length ≤ 1000000 ∧ r.heads.length ≤ 1000000 ∧ r.state.length ≤ 1000000 ∧ r.receipts.length ≤ 1000000 ∧ r.typing.length ≤ 1000000
theorem Nd (r : Ar.Rm) (hk : r.Ok) (hl : (Ar.Dt r).length ≤ 100000) : Fine r ∧ Few r := by
 have hj : (Ar.join [10] (Ar.AN r)).length ≤ 100000 := by
  unfold Ar.Dt at hl;rw [List.length_append] at hl;omega
 have hmem : ∀ l ∈ Ar.AN r, l.length ≤ 100000 := fun l h => Nat.le_trans (Ar.Kq [10] _ l h) hj
 have hnum := Ar.KK (Ar.AN r);have hlen : (Ar.AN r).length = 1 + r.events.length + r.rows.length + r.waiting.length + (if r.heads = [] then [] else [Ar.AB r.heads]).length + r.state.length + r.receipts.length + r.typing.length := by
  unfold Ar.AN;simp only [List.length_append, List.length_map, List.length_singleton]
 have hhead := hmem (Ar.As r.id r.next) (by unfold Ar.AN; simp);have hid : r.id.length ≤ 100000 := by
  have := Ar.Gk r.id;unfold Ar.As at hhead;rw [List.length_append, List.length_append] at hhead;omega
 have hev : ∀ e ∈ r.events, (Ar.line e).length ≤ 100000 := fun e he => Nat.le_trans (Ar.K6 Ar.evN _) (hmem _ (by unfold Ar.AN; simp only [List.mem_append, List.mem_map]; exact .inl (.inl (.inl (.inl (.inl (.inl (.inr ⟨e, he, rfl⟩))))))))
 have hwt : ∀ e ∈ r.waiting, (Ar.line e).length ≤ 100000 := fun e he => Nat.le_trans (Ar.K6 Ar.waitN _) (hmem _ (by unfold Ar.AN; simp only [List.mem_append, List.mem_map]; exact .inl (.inl (.inl (.inl (.inr ⟨e, he, rfl⟩))))))
 have hst : ∀ x ∈ r.state, x.2.1.length ≤ 100000 := fun x hx => by
  have h1 := hmem (Ar.Aw x) (by unfold Ar.AN; simp only [List.mem_append, List.mem_map]; exact .inl (.inl (.inr ⟨x, hx, rfl⟩)));have h2 := Ar.Gk x.2.1;unfold Ar.Aw at h1;simp only [List.length_append, List.length_cons] at h1;omega
 have hrc : ∀ x ∈ r.receipts, x.1.length ≤ 100000 := fun x hx => by
  have h1 := hmem (Ar.Am x) (by unfold Ar.AN; simp only [List.mem_append, List.mem_map]; exact .inl (.inr ⟨x, hx, rfl⟩));have h2 := Ar.Gk x.1;unfold Ar.Am at h1;simp only [List.length_append, List.length_cons] at h1;omega
 have hty : ∀ x ∈ r.typing, x.1.length ≤ 100000 := fun x hx => by
  have h1 := hmem (Ar.Ap x) (by unfold Ar.AN; simp only [List.mem_append, List.mem_map]; exact .inr ⟨x, hx, rfl⟩);have h2 := Ar.Gk x.1;unfold Ar.Ap at h1;simp only [List.length_append, List.length_cons] at h1;omega
 have hhd : (Ar.join [44] (r.heads.map Ar.itoa)).length ≤ 100000 := by
  by_cases h0 : r.heads = []
  ·rw [h0]; exact Nat.zero_le _
  ·have h1 := hmem (Ar.AB r.heads) (by unfold Ar.AN; simp only [List.mem_append]; rw [if_neg h0]; exact .inl (.inl (.inl (.inr (List.mem_singleton.2 rfl)))));unfold Ar.AB at h1;rw [List.length_append] at h1;omega
 have hhl := Ar.Ci Ar.itoa Ar.QI r.heads;have wok : ∀ e, Ar.Fits Ar.NK e → (Ar.line e).length ≤ 100000 → ∀ v ∈ e, v.WOk := fun e hf h => Ar.Jh (Ar.C0 e hf) h
 have hev2 := fun e he => wok e (hk.events e he) (hev e he)
 have hwt2 := fun e he => wok e (hk.waiting e he) (hwt e he)
 refine ⟨⟨hk.next, by omega, fun e he => ⟨hev2 e he, Nat.le_trans (hev e he) (by omega)⟩, hk.rows, fun e he => ⟨hwt2 e he, Nat.le_trans (hwt e he) (by omega)⟩, hk.heads,
  fun x hx => ⟨(hk.state x hx).1, Nat.le_trans (hst x hx) (by omega), (hk.state x hx).2⟩, fun x hx => ⟨Nat.le_trans (hrc x hx) (by omega), hk.receipts x hx⟩, fun x hx => ⟨Nat.le_trans (hty x hx) (by omega), hk.typing x hx⟩, by omega, by omega, by omega, by omega⟩, ?_⟩
 refine ⟨?_, ?_, ?_, ?_, ?_, ?_, ?_⟩ <;> omega
end Go.Proofs.YteadlcncnhbmjaaGreatDoor
