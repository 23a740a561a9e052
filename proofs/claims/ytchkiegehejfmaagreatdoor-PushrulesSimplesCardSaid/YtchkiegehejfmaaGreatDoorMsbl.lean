/- The texts Zg, Zh, Zi of this proof, one behind the other. -/
import Derived.Test.YtchkiegehejfmaaGreatDoorMsbk
import Derived.Test.YtchkiegehejfmaaGreatDoorMsbf
import Derived.Test.YtchkiegehejfmaaGreatDoorMsaw
import Derived.Test.YtchkiegehejfmaaGreatDoorMsax
set_option linter.unusedSimpArgs false
set_option maxHeartbeats 16000000
set_option maxRecDepth 100000
set_option linter.unusedVariables false
namespace Go.Proofs.YtchkiegehejfmaaGreatDoor
open Go.RowKit Go.Lib
theorem Iq (m : Nat) (hIH : BY m) (g : Nat) (q : Option Nat) (out : List UInt8) (o : Int) (Wd : ByteArray) (ks : List Pr.Cn) (A : Option Addr) (cap : Nat) (w : World) (hm : Pr.nodesL ks ≤ m) (hm6 : m ≤ 1000000) (h : PrS w g q out) (hrow : CnRow w (okP g q) A ks)
  (hw : Wd.data.toList = Pr.sepW o) (hws : Wd.size ≤ 10) (hj : ∀ k, Pr.joint o k = (k == 3)) (ht : Pr.treeEL ks = 0) (hlen : out.length + (Pr.textK o true ks).length ≤ 1000000) :
  Calls Tryz.prog 70 #[.pointer (some ⟨g, 0, none⟩), .slice A ks.length cap, .string Wd, .func (.func 71) #[] #[]] w fun e w' => e = .returned (.tuple #[]) ∧ ∃ q', PrS w' g q' (out ++ Pr.textK o true ks) ∧ PrK w g q w' q' := by
 have IH := hid hIH;have hkl := Pr.kids_nodes ks;have HJ := hid hj;have HTE := hid ht;have HR1 := hid hrow;have HP1 := hid h;obtain ⟨SP, hSP⟩ : ∃ SP, ((⟨#[32]⟩ : ByteArray) ++ Wd) ++ (⟨#[32]⟩ : ByteArray) = SP := ⟨_, rfl⟩;have HSW : Hid (SP.data.toList = 32 :: (Pr.sepW o ++ [32])) := hid (by rw [← hSP, Au, Au, hw]; simp);have hz1 : (⟨#[32]⟩ : ByteArray).size = 1 := rfl;have HZS : Hid (SP.size ≤ 10000000000) := hid (by rw [← hSP, ByteArray.size_append, ByteArray.size_append, hz1]; omega);have hsps : SP.data.toList.length ≤ 12 := by rw [← hSP, ← Am, ByteArray.size_append, ByteArray.size_append, hz1]; omega
 have hp1 : ¬ 9223372036854775807 < 1 + Wd.size := by omega
 have hp2 : ¬ 9223372036854775807 < 1 + Wd.size + 1 := by omega
 clear hIH h hrow hj ht hw;go_enter Tryz.func70, Tryz.ntmps70;go_wp2_with fail
 go_loopw [12] (fun ix wr => ∃ (k : Nat) (q1 : Option Nat), k ≤ ks.length ∧ ix = .int .i64 (k : Int) ∧ PrS wr g q1 (out ++ Pr.textK o true (ks.take k)) ∧ PrK w g q wr q1) (fun ix _ => ks.length - (RowKit.intOf ix).toNat)
 case atStart => exact ⟨0, q, Nat.zero_le _, rfl, by simpa [Pr.textK] using HP1.out, PrK.refl _ _ _⟩
 case round =>
  obtain ⟨k, q1, hk, rfl, hps, hpk⟩ := hrel;have HP0 := hid hps;have HKR := hid hpk;clear hps hpk;by_cases hlt : k < ks.length
  ·obtain ⟨x, hx⟩ : ∃ x, ks[k]? = some x := ⟨_, List.getElem?_eq_getElem hlt⟩;obtain ⟨b, off, cs, rfl, hok, hr, hcl, hcv⟩ := (HR1.out.prk HKR.out) k x hx;have HTX := hid (Pr.treeEL_kid ks k x HTE.out hx);have hnk := Pr.nodes_kid hx;have hstp := Pr.textK_step o ks k true x hx;have hle := Pr.textK_le o ks (k + 1) true;have HCV := hid hcv;have hone := hcv.one;obtain ⟨A2, cap2, hcs, -⟩ := hcv.open;have HX0 : Hid (cs.toArray[0]? = some (.int .i64 x.op)) := hid (by rw [hcs]; rfl);have HL2 : Hid ((Tryz.prog.info? 36).map (·.size) = some cs.length) := hid (by rw [Aa, hcl]);have HL3 : Hid ((Tryz.prog.info? 36).map (·.size) = some cs.toArray.size) := hid (by rw [Aa, List.size_toArray, hcl]);have HSZ : Hid (zCn.size = cs.toArray.size) := hid (by show 4 = cs.toArray.size; rw [List.size_toArray, hcl]);have HGW : Hid (g < wr.heap.size) := hid HP0.out.lt;have HQW : Hid (some wr.heap.size ≠ q1) := hid (fun e => by have := (HP0.out.own _ e.symm).2; omega);obtain ⟨oo, hoo⟩ : ∃ oo, out ++ Pr.textK o true (ks.take k) = oo := ⟨_, rfl⟩;have HP := HP0;rw [hoo] at HP;have HSTP : Hid (out ++ Pr.textK o true (ks.take (k + 1)) = oo ++ ((if true = true ∧ k = 0 then [] else 32 :: (Pr.sepW o ++ [32])) ++ Pr.wrapK o x)) := hid (by rw [hstp, ← hoo, List.append_assoc]);have HOO : Hid (oo = oo) := hid rfl;have hlo : oo.length ≤ 1000000 := by rw [← hoo, List.length_append]; have := Pr.textK_le o ks k true; omega
   have HZO : Hid (oo.length ≤ 10000000000) := hid (by omega);have hall : (out ++ Pr.textK o true (ks.take (k + 1))).length ≤ 1000000 := by rw [List.length_append]; omega
   simp only [List.length_append] at hall;clear hx hcv hcs HP0 hstp hoo;by_cases hk0 : k = 0
   ·subst hk0;have hr0 : wr.rangeAt b off cs := by simpa using hr
    clear hr;rcases Bool.eq_false_or_eq_true ((x.op == 3)) with hjx | hjx
    ·have HST : Hid (out ++ Pr.textK o true (ks.take (0 + 1)) = ((oo ++ [40]) ++ Pr.textC x) ++ [41]) := hid (by
      rw [HSTP.out, if_pos ⟨rfl, rfl⟩];unfold Pr.wrapK;rw [HJ.out x.op, hjx]
      simp)
     have hlst := congrArg List.length HST.out;simp only [List.length_append, List.length_cons, List.length_nil] at hlst;have HZQ : Hid ((oo).length ≤ 10000000000) := hid (by (try simp only [List.length_append]); omega);have HZT : Hid ((oo ++ [40]).length + (Pr.textC x).length ≤ 1000000) := hid (by simp only [List.length_append, List.length_cons, List.length_nil]; omega);have HZU : Hid (((oo ++ [40]) ++ Pr.textC x).length ≤ 10000000000) := hid (by simp only [List.length_append, List.length_cons, List.length_nil]; omega);clear hlst
     go_wp2_with (first
      | ((with_reducible refine wpList_load_mid rfl 36 _ rfl b off ?_ cs _ hr0 Tryz.underlying36 ?_ HL2.out ?_); rfl; rfl)
      | ((with_reducible refine Ah rfl 36 _ _ rfl wr.heap.size cs.toArray ?_ ?_ 36 _ (Blk.new wr 36 _) HL3.out ?_ hone ?_); rfl; rfl; exact HSZ.out; intro w2 hk2 hs2 hbl2; have HB2 : Hid (Below wr.heap.size wr w2) := hid (((Below.refl _ wr).alloc (Nat.le_refl _) (.cells zCn 36)).trans (hbl2 wr.heap.size (Nat.le_refl _))); have HP2 := hid (HP.out.bel HB2.out); have HK2 := hid (HKR.out.tr (PrK.of_bel HB2.out)); have HC2 := hid (HCV.out.bel HB2.out); have HV2 := hid hk2; have hc0 := AM HV2.out HX0.out; clear hk2 hs2 hbl2))
     go_wp2_with (first
      | (go_at_call 71; refine (CQ x.op true hjx w2).mono ?_; rintro e wj ⟨rfl, rfl⟩)
      | (go_at_call 34; refine (Az g q1 oo _ w2 HP2.out ⟨by decide, HZQ.out⟩).mono ?_; rintro e w4 ⟨rfl, q4, hp4, hk4⟩; have HP4 := hid hp4; have HK4 := hid (HK2.out.tr hk4); have HC4 := hid (HC2.out.prk hk4); have HV4 := hid (HV2.out.prk hk4 (by have := HGW.out; omega) HQW.out); have hv4 := HV4.out; clear hp4 hk4)
      | (refine wpList_load_row rfl 36 _ rfl wr.heap.size rfl 36 cs.toArray (0, 0) _ hv4 Tryz.underlying36 rfl HL3.out ?_))
     refine (IH.out g q4 (oo ++ [40]) x cs.toArray w4 (by omega) HP4.out HC4.out HTX.out HZT.out).mono ?_;rintro e w5 ⟨rfl, q5, hp5, hk5⟩;have HP5 := hid hp5;have HK5 := hid (HK4.out.tr hk5);clear hp5 hk5 hv4;go_wp2_with (go_at_call 34; refine (Az g q5 ((oo ++ [40]) ++ Pr.textC x) _ w5 HP5.out ⟨by decide, HZU.out⟩).mono ?_; rintro e w6 ⟨rfl, q6, hp6, hk6⟩; have HP6 := hid hp6; have HK6 := hid (HK5.out.tr hk6); clear hp6 hk6)
     go_roundw
     case rel => exact ⟨0 + 1, q6, by omega, by go_num, by rw [HST.out]; exact HP6.out, HK6.out⟩
     case measure => simp [RowKit.intOf]; omega
    ·have HST : Hid (out ++ Pr.textK o true (ks.take (0 + 1)) = oo ++ Pr.textC x) := hid (by
      rw [HSTP.out, if_pos ⟨rfl, rfl⟩];unfold Pr.wrapK;rw [HJ.out x.op, hjx]
      simp)
     have hlst := congrArg List.length HST.out;simp only [List.length_append, List.length_cons, List.length_nil] at hlst;have HZT : Hid ((oo).length + (Pr.textC x).length ≤ 1000000) := hid (by (try simp only [List.length_append]); omega);clear hlst
     go_wp2_with (first
      | ((with_reducible refine wpList_load_mid rfl 36 _ rfl b off ?_ cs _ hr0 Tryz.underlying36 ?_ HL2.out ?_); rfl; rfl)
      | ((with_reducible refine Ah rfl 36 _ _ rfl wr.heap.size cs.toArray ?_ ?_ 36 _ (Blk.new wr 36 _) HL3.out ?_ hone ?_); rfl; rfl; exact HSZ.out; intro w2 hk2 hs2 hbl2; have HB2 : Hid (Below wr.heap.size wr w2) := hid (((Below.refl _ wr).alloc (Nat.le_refl _) (.cells zCn 36)).trans (hbl2 wr.heap.size (Nat.le_refl _))); have HP2 := hid (HP.out.bel HB2.out); have HK2 := hid (HKR.out.tr (PrK.of_bel HB2.out)); have HC2 := hid (HCV.out.bel HB2.out); have HV2 := hid hk2; have hc0 := AM HV2.out HX0.out; clear hk2 hs2 hbl2))
     have hv2 := HV2.out
     go_wp2_with (first
      | (go_at_call 71; refine (CQ x.op false hjx w2).mono ?_; rintro e wj ⟨rfl, rfl⟩)
      | (refine wpList_load_row rfl 36 _ rfl wr.heap.size rfl 36 cs.toArray (0, 0) _ hv2 Tryz.underlying36 rfl HL3.out ?_))
     refine (IH.out g q1 oo x cs.toArray w2 (by omega) HP2.out HC2.out HTX.out HZT.out).mono ?_;rintro e w5 ⟨rfl, q5, hp5, hk5⟩;have HP5 := hid hp5;have HK5 := hid (HK2.out.tr hk5);clear hp5 hk5 hv2;go_wp2_with fail
     go_roundw
     case rel => exact ⟨0 + 1, q5, by omega, by go_num, by rw [HST.out]; exact HP5.out, HK5.out⟩
     case measure => simp [RowKit.intOf]; omega
   ·have hkz2 : 0 < (k : Int) := by omega
    have hkz3 : 0 < k := by omega
    rcases Bool.eq_false_or_eq_true ((x.op == 3)) with hjx | hjx
    ·have HST : Hid (out ++ Pr.textK o true (ks.take (k + 1)) = (((oo ++ SP.data.toList) ++ [40]) ++ Pr.textC x) ++ [41]) := hid (by
      rw [HSTP.out, if_neg (by omega)];unfold Pr.wrapK;rw [HJ.out x.op, hjx, ← HSW.out]
      simp)
     have hlst := congrArg List.length HST.out;simp only [List.length_append, List.length_cons, List.length_nil] at hlst;have HZQ : Hid (((oo ++ SP.data.toList)).length ≤ 10000000000) := hid (by (try simp only [List.length_append]); omega);have HZT : Hid (((oo ++ SP.data.toList) ++ [40]).length + (Pr.textC x).length ≤ 1000000) := hid (by simp only [List.length_append, List.length_cons, List.length_nil]; omega);have HZU : Hid ((((oo ++ SP.data.toList) ++ [40]) ++ Pr.textC x).length ≤ 10000000000) := hid (by simp only [List.length_append, List.length_cons, List.length_nil]; omega);clear hlst
     go_wp2_with (first
      | ((with_reducible refine wpList_load_mid rfl 36 _ rfl b (off + k * 4) ?_ cs _ hr Tryz.underlying36 ?_ HL2.out ?_); rfl; rfl)
      | ((with_reducible refine Ah rfl 36 _ _ rfl wr.heap.size cs.toArray ?_ ?_ 36 _ (Blk.new wr 36 _) HL3.out ?_ hone ?_); rfl; rfl; exact HSZ.out; intro w2 hk2 hs2 hbl2; have HB2 : Hid (Below wr.heap.size wr w2) := hid (((Below.refl _ wr).alloc (Nat.le_refl _) (.cells zCn 36)).trans (hbl2 wr.heap.size (Nat.le_refl _))); have HP2 := hid (HP.out.bel HB2.out); have HK2 := hid (HKR.out.tr (PrK.of_bel HB2.out)); have HC2 := hid (HCV.out.bel HB2.out); have HV2 := hid hk2; have hc0 := AM HV2.out HX0.out; clear hk2 hs2 hbl2)
      | (go_at_call 34; refine (Az g q1 oo _ w2 HP2.out ⟨HZS.out, HZO.out⟩).mono ?_; rintro e w3 ⟨rfl, q3, hp3, hk3⟩; have HP3 := hid hp3; have HK3 := hid (HK2.out.tr hk3); have HC3 := hid (HC2.out.prk hk3); have HV3 := hid (HV2.out.prk hk3 (by have := HGW.out; omega) HQW.out); have HQ3 : Hid (some wr.heap.size ≠ q3) := hid (hk3.apart HV2.out.lt HQW.out); have hc3 := AM HV3.out HX0.out; clear hp3 hk3))
     go_wp2_with (first
      | (go_at_call 71; refine (CQ x.op true hjx w3).mono ?_; rintro e wj ⟨rfl, rfl⟩)
      | (go_at_call 34; refine (Az g q3 (oo ++ SP.data.toList) _ w3 HP3.out ⟨by decide, HZQ.out⟩).mono ?_; rintro e w4 ⟨rfl, q4, hp4, hk4⟩; have HP4 := hid hp4; have HK4 := hid (HK3.out.tr hk4); have HC4 := hid (HC3.out.prk hk4); have HV4 := hid (HV3.out.prk hk4 (by have := HGW.out; omega) HQ3.out); have hv4 := HV4.out; clear hp4 hk4)
      | (refine wpList_load_row rfl 36 _ rfl wr.heap.size rfl 36 cs.toArray (0, 0) _ hv4 Tryz.underlying36 rfl HL3.out ?_))
     refine (IH.out g q4 ((oo ++ SP.data.toList) ++ [40]) x cs.toArray w4 (by omega) HP4.out HC4.out HTX.out HZT.out).mono ?_;rintro e w5 ⟨rfl, q5, hp5, hk5⟩;have HP5 := hid hp5;have HK5 := hid (HK4.out.tr hk5);clear hp5 hk5 hv4;go_wp2_with (go_at_call 34; refine (Az g q5 (((oo ++ SP.data.toList) ++ [40]) ++ Pr.textC x) _ w5 HP5.out ⟨by decide, HZU.out⟩).mono ?_; rintro e w6 ⟨rfl, q6, hp6, hk6⟩; have HP6 := hid hp6; have HK6 := hid (HK5.out.tr hk6); clear hp6 hk6)
     go_roundw
     case rel => exact ⟨k + 1, q6, by omega, by go_num, by rw [HST.out]; exact HP6.out, HK6.out⟩
     case measure => simp [RowKit.intOf]; omega
    ·have HST : Hid (out ++ Pr.textK o true (ks.take (k + 1)) = (oo ++ SP.data.toList) ++ Pr.textC x) := hid (by
      rw [HSTP.out, if_neg (by omega)];unfold Pr.wrapK;rw [HJ.out x.op, hjx, ← HSW.out]
      simp)
     have hlst := congrArg List.length HST.out;simp only [List.length_append, List.length_cons, List.length_nil] at hlst;have HZT : Hid (((oo ++ SP.data.toList)).length + (Pr.textC x).length ≤ 1000000) := hid (by (try simp only [List.length_append]); omega);clear hlst
     go_wp2_with (first
      | ((with_reducible refine wpList_load_mid rfl 36 _ rfl b (off + k * 4) ?_ cs _ hr Tryz.underlying36 ?_ HL2.out ?_); rfl; rfl)
      | ((with_reducible refine Ah rfl 36 _ _ rfl wr.heap.size cs.toArray ?_ ?_ 36 _ (Blk.new wr 36 _) HL3.out ?_ hone ?_); rfl; rfl; exact HSZ.out; intro w2 hk2 hs2 hbl2; have HB2 : Hid (Below wr.heap.size wr w2) := hid (((Below.refl _ wr).alloc (Nat.le_refl _) (.cells zCn 36)).trans (hbl2 wr.heap.size (Nat.le_refl _))); have HP2 := hid (HP.out.bel HB2.out); have HK2 := hid (HKR.out.tr (PrK.of_bel HB2.out)); have HC2 := hid (HCV.out.bel HB2.out); have HV2 := hid hk2; have hc0 := AM HV2.out HX0.out; clear hk2 hs2 hbl2)
      | (go_at_call 34; refine (Az g q1 oo _ w2 HP2.out ⟨HZS.out, HZO.out⟩).mono ?_; rintro e w3 ⟨rfl, q3, hp3, hk3⟩; have HP3 := hid hp3; have HK3 := hid (HK2.out.tr hk3); have HC3 := hid (HC2.out.prk hk3); have HV3 := hid (HV2.out.prk hk3 (by have := HGW.out; omega) HQW.out); have HQ3 : Hid (some wr.heap.size ≠ q3) := hid (hk3.apart HV2.out.lt HQW.out); have hc3 := AM HV3.out HX0.out; clear hp3 hk3))
     have hv3 := HV3.out
     go_wp2_with (first
      | (go_at_call 71; refine (CQ x.op false hjx w3).mono ?_; rintro e wj ⟨rfl, rfl⟩)
      | (refine wpList_load_row rfl 36 _ rfl wr.heap.size rfl 36 cs.toArray (0, 0) _ hv3 Tryz.underlying36 rfl HL3.out ?_))
     refine (IH.out g q3 (oo ++ SP.data.toList) x cs.toArray w3 (by omega) HP3.out HC3.out HTX.out HZT.out).mono ?_;rintro e w5 ⟨rfl, q5, hp5, hk5⟩;have HP5 := hid hp5;have HK5 := hid (HK3.out.tr hk5);clear hp5 hk5 hv3;go_wp2_with fail
     go_roundw
     case rel => exact ⟨k + 1, q5, by omega, by go_num, by rw [HST.out]; exact HP5.out, HK5.out⟩
     case measure => simp [RowKit.intOf]; omega
  ·obtain rfl : k = ks.length := by omega
   have htk : ks.take ks.length = ks := List.take_length;have HF := HP0;rw [htk] at HF;clear HP0 htk;go_wp2_with fail
   go_end0
   exact ⟨rfl, q1, HF.out, HKR.out⟩
theorem Ik : ∀ k, Pr.joint 2 k = (k == 2 || k == 3) := fun k => by unfold Pr.joint; cases k == 3 <;> cases k == 2 <;> rfl
theorem Il : ∀ k, Pr.joint 4 k = (k == 2 || k == 3) := fun k => by unfold Pr.joint; cases k == 3 <;> cases k == 2 <;> rfl
theorem If : ∀ k, Pr.joint 3 k = (k == 3) := fun k => by unfold Pr.joint; cases k == 3 <;> cases k == 2 <;> rfl
theorem pcnd2 (m : Nat) (hIH : BY m) (g : Nat) (q : Option Nat) (out : List UInt8) (T : ByteArray) (n : Int) (ks : List Pr.Cn) (A : Option Addr) (cap : Nat) (w : World) (hm : Pr.nodesL ks ≤ m) (hm6 : m ≤ 1000000) (h : PrS w g q out) (hrow : CnRow w (okP g q) A ks)
  (ht : Pr.treeEL ks = 0) (hlen : out.length + (Pr.textK 2 true ks).length ≤ 1000000) :
  Calls Tryz.prog 35 #[.pointer (some ⟨g, 0, none⟩), .agg #[.int .i64 2, .string T, .int .i64 n, .slice A ks.length cap]] w fun e w' => e = .returned (.tuple #[]) ∧ ∃ q', PrS w' g q' (out ++ Pr.textK 2 true ks) ∧ PrK w g q w' q' := by
 have hb1 : Below w.heap.size w (w.alloc (.cells #[.int .i64 2, .string T, .int .i64 n, .slice A ks.length cap] 36)) := (Below.refl w.heap.size w).alloc (Nat.le_refl _) _;have hv1 := Blk.new w 36 #[.int .i64 2, .string T, .int .i64 n, .slice A ks.length cap];have hc0 : (w.alloc (.cells #[.int .i64 2, .string T, .int .i64 n, .slice A ks.length cap] 36)).cell? ⟨w.heap.size, 0, none⟩ = some (.int .i64 2) := hv1.cell 0;have hc3 : (w.alloc (.cells #[.int .i64 2, .string T, .int .i64 n, .slice A ks.length cap] 36)).cell? ⟨w.heap.size, 3, none⟩ = some (.slice A ks.length cap) := hv1.cell 3;have HP1 := hid (h.bel hb1);have HK1 : Hid (PrK w g q (w.alloc (.cells #[.int .i64 2, .string T, .int .i64 n, .slice A ks.length cap] 36)) q) := hid (PrK.of_bel hb1);have HR1 := hid (hrow.prk HK1.out);have HV1 := hid hv1;have HGL := hid h.lt;have HQN : Hid (some w.heap.size ≠ q) := hid (fun e => by have := (h.own _ e.symm).2; omega);have IH := hid hIH;generalize hw1 : w.alloc (.cells #[.int .i64 2, .string T, .int .i64 n, .slice A ks.length cap] 36) = w1 at *;have HW1 := hid hw1;clear hIH h hrow hb1 hv1;go_enter Tryz.func35, Tryz.ntmps35;go_wp2_with fail;refine (GK m IH.out g q out 2 ⟨#[97, 110, 100]⟩ ks A cap w1 hm hm6 HP1.out HR1.out rfl (by decide) Ik ht hlen).mono ?_;rintro e w5 ⟨rfl, q5, hp5, hk5⟩;have HP5 := hid hp5;have HK5 := hid (HK1.out.tr hk5);clear hp5 hk5;go_wp2_with fail
 go_end0
 exact ⟨rfl, q5, HP5.out, HK5.out⟩
theorem pcnd3 (m : Nat) (hIH : BY m) (g : Nat) (q : Option Nat) (out : List UInt8) (T : ByteArray) (n : Int) (ks : List Pr.Cn) (A : Option Addr) (cap : Nat) (w : World) (hm : Pr.nodesL ks ≤ m) (hm6 : m ≤ 1000000) (h : PrS w g q out) (hrow : CnRow w (okP g q) A ks)
  (ht : Pr.treeEL ks = 0) (hlen : out.length + (Pr.textK 3 true ks).length ≤ 1000000) :
  Calls Tryz.prog 35 #[.pointer (some ⟨g, 0, none⟩), .agg #[.int .i64 3, .string T, .int .i64 n, .slice A ks.length cap]] w fun e w' => e = .returned (.tuple #[]) ∧ ∃ q', PrS w' g q' (out ++ Pr.textK 3 true ks) ∧ PrK w g q w' q' := by
 have hb1 : Below w.heap.size w (w.alloc (.cells #[.int .i64 3, .string T, .int .i64 n, .slice A ks.length cap] 36)) := (Below.refl w.heap.size w).alloc (Nat.le_refl _) _;have hv1 := Blk.new w 36 #[.int .i64 3, .string T, .int .i64 n, .slice A ks.length cap];have hc0 : (w.alloc (.cells #[.int .i64 3, .string T, .int .i64 n, .slice A ks.length cap] 36)).cell? ⟨w.heap.size, 0, none⟩ = some (.int .i64 3) := hv1.cell 0;have hc3 : (w.alloc (.cells #[.int .i64 3, .string T, .int .i64 n, .slice A ks.length cap] 36)).cell? ⟨w.heap.size, 3, none⟩ = some (.slice A ks.length cap) := hv1.cell 3;have HP1 := hid (h.bel hb1);have HK1 : Hid (PrK w g q (w.alloc (.cells #[.int .i64 3, .string T, .int .i64 n, .slice A ks.length cap] 36)) q) := hid (PrK.of_bel hb1);have HR1 := hid (hrow.prk HK1.out);have HV1 := hid hv1;have HGL := hid h.lt;have HQN : Hid (some w.heap.size ≠ q) := hid (fun e => by have := (h.own _ e.symm).2; omega);have IH := hid hIH;generalize hw1 : w.alloc (.cells #[.int .i64 3, .string T, .int .i64 n, .slice A ks.length cap] 36) = w1 at *;have HW1 := hid hw1;clear hIH h hrow hb1 hv1;go_enter Tryz.func35, Tryz.ntmps35;go_wp2_with fail;refine (Iq m IH.out g q out 3 ⟨#[111, 114]⟩ ks A cap w1 hm hm6 HP1.out HR1.out rfl (by decide) If ht hlen).mono ?_;rintro e w5 ⟨rfl, q5, hp5, hk5⟩;have HP5 := hid hp5;have HK5 := hid (HK1.out.tr hk5);clear hp5 hk5;go_wp2_with fail
 go_end0
 exact ⟨rfl, q5, HP5.out, HK5.out⟩
theorem pcnd4 (m : Nat) (hIH : BY m) (g : Nat) (q : Option Nat) (out : List UInt8) (T : ByteArray) (n : Int) (ks : List Pr.Cn) (A : Option Addr) (cap : Nat) (w : World) (hm : Pr.nodesL ks ≤ m) (hm6 : m ≤ 1000000) (h : PrS w g q out) (hrow : CnRow w (okP g q) A ks)
  (ht : Pr.treeEL ks = 0) (hlen : out.length + (([110, 111, 116, 32] ++ Pr.textK 4 true ks)).length ≤ 1000000) :
  Calls Tryz.prog 35 #[.pointer (some ⟨g, 0, none⟩), .agg #[.int .i64 4, .string T, .int .i64 n, .slice A ks.length cap]] w fun e w' => e = .returned (.tuple #[]) ∧ ∃ q', PrS w' g q' (out ++ ([110, 111, 116, 32] ++ Pr.textK 4 true ks)) ∧ PrK w g q w' q' := by
 have hb1 : Below w.heap.size w (w.alloc (.cells #[.int .i64 4, .string T, .int .i64 n, .slice A ks.length cap] 36)) := (Below.refl w.heap.size w).alloc (Nat.le_refl _) _;have hv1 := Blk.new w 36 #[.int .i64 4, .string T, .int .i64 n, .slice A ks.length cap];have hc0 : (w.alloc (.cells #[.int .i64 4, .string T, .int .i64 n, .slice A ks.length cap] 36)).cell? ⟨w.heap.size, 0, none⟩ = some (.int .i64 4) := hv1.cell 0;have hc3 : (w.alloc (.cells #[.int .i64 4, .string T, .int .i64 n, .slice A ks.length cap] 36)).cell? ⟨w.heap.size, 3, none⟩ = some (.slice A ks.length cap) := hv1.cell 3;have HP1 := hid (h.bel hb1);have HK1 : Hid (PrK w g q (w.alloc (.cells #[.int .i64 4, .string T, .int .i64 n, .slice A ks.length cap] 36)) q) := hid (PrK.of_bel hb1);have HR1 := hid (hrow.prk HK1.out);have HV1 := hid hv1;have HGL := hid h.lt;have HQN : Hid (some w.heap.size ≠ q) := hid (fun e => by have := (h.own _ e.symm).2; omega);have IH := hid hIH;generalize hw1 : w.alloc (.cells #[.int .i64 4, .string T, .int .i64 n, .slice A ks.length cap] 36) = w1 at *;have HW1 := hid hw1;clear hIH h hrow hb1 hv1;go_enter Tryz.func35, Tryz.ntmps35;have hl4 : ([110, 111, 116, 32] : List UInt8).length = 4 := rfl;rw [List.length_append, hl4] at hlen;go_wp2_with (go_at_call 34; refine (Az g q out _ w1 HP1.out ⟨by decide, by omega⟩).mono ?_; rintro e w2 ⟨rfl, q2, hp2, hk2⟩; have HP2 := hid hp2; have HR2 := hid (HR1.out.prk hk2); have HK2 := hid (HK1.out.tr hk2); have hv2 := HV1.out.prk hk2 (by have := HGL.out; omega) HQN.out; have hc32 : w2.cell? ⟨w.heap.size, 3, none⟩ = some (.slice A ks.length cap) := hv2.cell 3; clear hv2; clear hp2 hk2);refine (GK m IH.out g q2 (out ++ [110, 111, 116, 32]) 4 ⟨#[]⟩ ks A cap w2 hm hm6 HP2.out HR2.out rfl (by decide) Il ht (by rw [List.length_append, hl4]; omega)).mono ?_;rintro e w5 ⟨rfl, q5, hp5, hk5⟩;have HP5 := hid hp5;have HK5 := hid (HK2.out.tr hk5);clear hp5 hk5;go_wp2_with fail
 go_end0
 exact ⟨rfl, q5, by have := HP5.out; rw [List.append_assoc] at this; exact this, HK5.out⟩
theorem Ij (o : Int) (t : List UInt8) (n : Int) (ks : List Pr.Cn) (h2 : o ≠ 2) (h3 : o ≠ 3) (h4 : o ≠ 4) : Pr.textC (.mk o t n ks) = Pr.leafT o t n := by
 unfold Pr.textC;rw [if_neg (by omega), if_neg h4]
theorem Dr (t : List UInt8) : t.length ≤ (Pr.quoteT t).length := by
 have h : ∀ t : List UInt8, t.length ≤ (t.flatMap Pr.escC).length := fun t => by
  induction t with
  | nil => simp
  | cons c r ih =>
   rw [List.flatMap_cons, List.length_append, List.length_cons];have : 1 ≤ (Pr.escC c).length := by unfold Pr.escC; split <;> simp
   omega
 have := h t;unfold Pr.quoteT;rw [List.length_cons, List.length_append];omega
theorem GF {o : Int} {t : List UInt8} {n : Int} {m : Nat} (h : Pr.nodeE o t n m = 0) : 1 ≤ o ∧ o ≤ 17 ∧ Pr.fieldE o t n m = 0 := by
 unfold Pr.nodeE at h;split at h
 ·cases h
 ·rename_i hn;have hk : Pr.known o = true := by
   cases hk : Pr.known o
   ·exact absurd (.inl hk) hn
   ·rfl
  unfold Pr.known at hk;simp only [decide_eq_true_eq, Bool.and_eq_true] at hk;exact ⟨by omega, by omega, h⟩
theorem Bs {n a b : Int} (h : Pr.withinE n a b = 0) : a ≤ n ∧ n ≤ b := by
 unfold Pr.withinE at h;split at h
 ·cases h
 ·omega
theorem DM : ∀ m : Nat, m ≤ 1000000 → BY m
 | 0, _ => fun g q out c V w hm => absurd hm (by have := Pr.nodes_pos c; omega)
 | m + 1, hm6 => fun g q out c V w hm h hc ht hlen => by
  have IH := DM m (by omega);obtain ⟨A, cap, rfl, hrow⟩ := hc.open;obtain ⟨o, t, n, ks⟩ := c;simp only [Pr.Cn.op, Pr.Cn.text, Pr.Cn.num, Pr.Cn.kids] at hrow ⊢;have hnd : Pr.nodesL ks ≤ m := by have := Pr.nodes_eq (.mk o t n ks); simp only [Pr.Cn.kids] at this; omega
  have hte : Pr.nodeE o t n ks.length = 0 ∧ Pr.treeEL ks = 0 := by
   unfold Pr.treeE at ht;by_cases h0 : Pr.nodeE o t n ks.length = 0
   ·rw [if_neg (by simp [h0])] at ht; exact ⟨h0, ht⟩
   ·rw [if_pos h0] at ht; exact absurd ht h0
  obtain ⟨ho1, ho17, hfe⟩ := GF hte.1;by_cases h2 : o = 2
  ·subst h2;have e : Pr.textC (.mk 2 t n ks) = Pr.textK 2 true ks := by unfold Pr.textC; rfl
   rw [e] at hlen ⊢;exact pcnd2 m IH g q out (bstr t) n ks A cap w hnd (by omega) h hrow hte.2 hlen
  by_cases h3 : o = 3
  ·subst h3;have e : Pr.textC (.mk 3 t n ks) = Pr.textK 3 true ks := by unfold Pr.textC; rfl
   rw [e] at hlen ⊢;exact pcnd3 m IH g q out (bstr t) n ks A cap w hnd (by omega) h hrow hte.2 hlen
  by_cases h4 : o = 4
  ·subst h4;have e : Pr.textC (.mk 4 t n ks) = [110, 111, 116, 32] ++ Pr.textK 4 true ks := by unfold Pr.textC; rfl
   rw [e] at hlen ⊢;exact pcnd4 m IH g q out (bstr t) n ks A cap w hnd (by omega) h hrow hte.2 hlen
  have e := Ij o t n ks h2 h3 h4;rw [e] at hlen ⊢;have hsz : (bstr t).size = t.length := Ai t;have hol : out.length ≤ 1000000000 := by omega
  by_cases h5 : o = 5
  ·subst h5;have hw : Pr.withinE n 1 14 = 0 := hfe;obtain ⟨h1, h14⟩ := Bs hw;obtain ⟨k, hk⟩ : ∃ k : Nat, n = (k : Int) + 1 := ⟨(n - 1).toNat, by omega⟩;subst hk;exact In g q out (bstr t) k A ks.length cap w h hol (by omega)
  by_cases h6 : o = 6
  ·subst h6;have hq : (Pr.leafT 6 t n) = Pr.fieldW 6 ++ 32 :: Pr.quoteT t := by unfold Pr.leafT; rfl
   have := Dr t;rw [hq] at hlen;simp only [List.length_append, List.length_cons] at hlen;exact Ie g q out (bstr t) n A ks.length cap w h hol (by omega)
  by_cases h7 : o = 7
  ·subst h7;have hq : (Pr.leafT 7 t n) = Pr.fieldW 7 ++ 32 :: Pr.quoteT t := by unfold Pr.leafT; rfl
   have := Dr t;rw [hq] at hlen;simp only [List.length_append, List.length_cons] at hlen;exact Ih g q out (bstr t) n A ks.length cap w h hol (by omega)
  by_cases h8 : o = 8
  ·subst h8;have hq : (Pr.leafT 8 t n) = Pr.fieldW 8 ++ 32 :: Pr.quoteT t := by unfold Pr.leafT; rfl
   have := Dr t;rw [hq] at hlen;simp only [List.length_append, List.length_cons] at hlen;exact Im g q out (bstr t) n A ks.length cap w h hol (by omega)
  by_cases h9 : o = 9
  ·subst h9;have hq : (Pr.leafT 9 t n) = [119, 111, 114, 100, 32] ++ t := by unfold Pr.leafT; rfl
   rw [hq, List.length_append] at hlen;exact Ip g q out (bstr t) n A ks.length cap w h hol (by omega)
  by_cases h10 : o = 10
  ·subst h10;have hw : Pr.withinE n (-1000) 1000 = 0 := hfe;have hi : Ar.inInt n := by obtain ⟨h1, h2⟩ := Bs hw; constructor <;> omega
   exact Hq g q out (bstr t) n A ks.length cap w h hol hi
  by_cases h11 : o = 11
  ·subst h11;have hw : Pr.withinE n 0 1000000000000 = 0 := hfe;have hi : Ar.inInt n := by obtain ⟨h1, h2⟩ := Bs hw; constructor <;> omega
   exact Id g q out (bstr t) n A ks.length cap w h hol hi
  by_cases h12 : o = 12
  ·subst h12;have hw : Pr.withinE n 0 1000000000 = 0 := hfe;have hi : Ar.inInt n := by obtain ⟨h1, h2⟩ := Bs hw; constructor <;> omega
   exact Ia g q out (bstr t) n A ks.length cap w h hol hi
  exact Ir g q out o (bstr t) n A ks.length cap w h hol ⟨ho1, ho17⟩ (by omega)
end Go.Proofs.YtchkiegehejfmaaGreatDoor
namespace Pr
theorem join_is (l : List Str) : ([44, 32] : Str).intercalate l = joinT l := by
 have h : ∀ (r : List Str) (a : Str), ([44, 32] : Str).intercalate (a :: r) = a ++ r.flatMap fun b => 44 :: 32 :: b := fun r => by
  induction r with
  | nil => intro a; simp [List.intercalate]
  | cons b r ih =>
   intro a;have := ih b;simp only [List.intercalate] at this ⊢;rw [List.intersperse_cons_cons];simp only [List.flatten_cons, List.flatMap_cons];rw [this];simp
 cases l with
 | nil => rfl
 | cons a r => exact h r a
theorem printT_take {l : List Rl} {k : Nat} {x : Rl} (h : l[k]? = some x) : printT (l.take (k + 1)) = printT (l.take k) ++ (ruleT x ++ [10]) := by
 obtain ⟨h1, h2⟩ := List.getElem?_eq_some_iff.1 h;unfold printT;rw [List.take_succ_eq_append_getElem h1, h2, List.flatMap_append];simp
theorem printT_le (l : List Rl) (k : Nat) : (printT (l.take k)).length ≤ (printT l).length := by
 unfold printT
 conv => rhs; rw [← List.take_append_drop k l, List.flatMap_append, List.length_append]
 omega
theorem printP_bad {l : List Rl} (h : checkE l ≠ 0) : printP l = ([], checkE l) := by unfold printP; rw [if_pos h]
theorem printP_long {l : List Rl} (h : checkE l = 0) (h2 : 20000 < (printT l).length) : printP l = ([], 7) := by unfold printP; rw [if_neg (by simp [h]), if_pos h2]
theorem printP_done {l : List Rl} (h : checkE l = 0) (h2 : ¬ 20000 < (printT l).length) : printP l = (printT l, 0) := by unfold printP; rw [if_neg (by simp [h]), if_neg h2]
theorem check_rules {l : List Rl} (h : checkE l = 0) : rulesE [] l = 0 := by
 unfold checkE at h;split at h
 ·cases h
 ·exact h
end Pr
namespace Go.Proofs.YtchkiegehejfmaaGreatDoor
open Go.RowKit Go.Lib
theorem Eo {n : Nat} {w : World} : PrS (w.alloc (.cells #[.pointer none, .slice none 0 0] 58)) w.heap.size none [] := by
 refine ⟨.pointer none, .slice none 0 0, .inl rfl, Blk.new w 58 _, ?_, rfl⟩;exact FC _ _ _
theorem RlRow.prk {w w' : World} {g : Nat} {q q' : Option Nat} {A : Option Addr} {l : List Pr.Rl} (h : RlRow w (okP g q) A l) (hk : PrK w g q w' q') : RlRow w' (okP g q') A l := h.keep fun b hb hl => ⟨⟨hb.1, hk.apart hl hb.2⟩, hk.block b hl hb.1 hb.2⟩
theorem RlV.prk {w w' : World} {g : Nat} {q q' : Option Nat} {X : Array Value} {r : Pr.Rl} (h : RlV w (okP g q) X r) (hk : PrK w g q w' q') : RlV w' (okP g q') X r := h.keep fun b hb hl => ⟨⟨hb.1, hk.apart hl hb.2⟩, hk.block b hl hb.1 hb.2⟩
theorem EX (D : Option Addr) (c : Nat) (l : List (List UInt8)) (w : World) (h : Rd w D l.length (strL l)) (hc : l.length ≤ c) (hne : l ≠ []) (hlen : (Pr.joinT l).length ≤ 1000000) (hn : l.length ≤ 1000000) :
  Calls Tryz.prog 36 #[.slice D l.length c, .string ⟨#[44, 32]⟩] w fun e w' => e = .returned (.string (bstr (Pr.joinT l))) ∧ Below w.heap.size w w' := by
 have hp : 0 < l.length := List.length_pos_iff.2 hne;obtain ⟨bk, o, hD, hcell⟩ := h.2 0 _ (List.getElem?_eq_getElem (show 0 < (strL l).length by unfold strL; rw [List.length_map]; exact hp));subst hD;have hlm : (l.map bstr).length = l.length := List.length_map ..
 have hjm : Lib.join ((l.map bstr).map (·.data.toList)) (⟨#[44, 32]⟩ : ByteArray).data.toList = Pr.joinT l := by
  rw [List.map_map];have : ((fun x : ByteArray => x.data.toList) ∘ bstr) = id := rfl;rw [this, List.map_id];exact Pr.join_is l
 have := Tryz.strings_Join bk o c (l.map bstr) ⟨#[44, 32]⟩ w (fun j x hj => by
  rw [List.getElem?_map, Option.map_eq_some_iff] at hj;obtain ⟨s, hs, rfl⟩ := hj;obtain ⟨b2, o2, e2, hc2⟩ := h.2 j (.string (bstr s)) (by unfold strL; rw [List.getElem?_map, hs]; rfl);injection e2 with e2;injection e2 with e3 e4;rw [e3, e4]
  exact hc2) (An hcell) (by omega) (by omega) (by rw [hjm]; omega)
 rw [hlm, hjm] at this;exact this
theorem Fh (ok : Nat → Prop) (l : List Pr.Rl) (A : Option Addr) (cap : Nat) (w : World) (hn : l.length ≤ 1000000) (hcap : l.length ≤ cap) (hl : RlRow w ok A l) (hg : ∀ x ∈ l, x.Good) (ht : (Pr.printT l).length ≤ 1000000) :
  Calls Tryz.prog 12 #[.slice A l.length cap] w fun e w' => e = .returned (.tuple #[.string (bstr (Pr.printP l).1), .int .i64 (Pr.printP l).2]) ∧ Below w.heap.size w w' := by
 have HCK := hid (B9 ok l A cap w hn hcap hl hg);have HR := hid hl;have HG := hid hg;have hlw : ∀ b, ok b → True := fun _ _ => trivial
 clear hl hg;by_cases hE : Pr.checkE l = 0
 ·have HE := hid hE;have HFN := hid (Pr.rules_fine l [] (Pr.check_rules hE));rw [hE] at HCK;clear hE;go_enter Tryz.func12, Tryz.ntmps12;go_wp2_with (go_at_call 23; refine HCK.out.mono ?_; rintro e w1 ⟨rfl, hb1⟩);have hb2 : Below w1.heap.size w1 (w1.alloc (.cells #[.pointer none, .slice none 0 0] 58)) := (Below.refl _ _).alloc (Nat.le_refl _) _;have HP2 : Hid (PrS (w1.alloc (.cells #[.pointer none, .slice none 0 0] 58)) w1.heap.size none []) := hid (Eo (n := 0));generalize hw2 : w1.alloc (.cells #[.pointer none, .slice none 0 0] 58) = w2 at *;clear hw2;obtain ⟨g, hgq⟩ : ∃ g, w1.heap.size = g := ⟨_, rfl⟩;have hgw : w.heap.size ≤ g := by have := hb1.size; omega
  have HB2 : Hid (Below w.heap.size w w2) := hid (hb1.trans (hb2.mono hb1.size));have HR2 : Hid (RlRow w2 (okP g none) A l) := hid (HR.out.keep fun b hb hl => ⟨⟨by omega, by simp⟩, HB2.out.block b hl⟩);rw [hgq] at HP2;rw [hgq];clear hb1 hb2 hgq HR
  go_loopw [15] (fun ix wr => ∃ (k : Nat) (q1 : Option Nat), k ≤ l.length ∧ ix = .int .i64 (k : Int) ∧ PrS wr g q1 (Pr.printT (l.take k)) ∧ PrK w2 g none wr q1) (fun ix _ => l.length - (RowKit.intOf ix).toNat)
  case atStart => exact ⟨0, none, Nat.zero_le _, rfl, HP2.out, PrK.refl _ _ _⟩
  case round =>
   obtain ⟨k, q1, hk, rfl, hps, hpk⟩ := hrel;have HP0 := hid hps;have HKR := hid hpk;clear hps hpk;by_cases hlt : k < l.length
   ·obtain ⟨x, hx⟩ : ∃ x, l[k]? = some x := ⟨_, List.getElem?_eq_getElem hlt⟩;obtain ⟨b, off, cs, rfl, hok, hr, hcl, hcv⟩ := (HR2.out.prk HKR.out) k x hx;have HFX := hid (HFN.out x (List.mem_of_getElem? hx));have HGX := hid (HG.out x (List.mem_of_getElem? hx));have hstp := Pr.printT_take hx;have hle := Pr.printT_le l (k + 1);have HCV := hid hcv;have hone := hcv.one;obtain ⟨A2, cap2, D, dcap, hcs, hrow, hrd, hdc, hdo⟩ := hcv;have HX0 : Hid (cs.toArray[0]? = some (.string (bstr x.name))) := hid (by rw [hcs]; rfl);have HX1 : Hid (cs.toArray[1]? = some (.int .i64 x.wh.op)) := hid (by rw [hcs]; rfl);have HX2 : Hid (cs.toArray[2]? = some (.string (bstr x.wh.text))) := hid (by rw [hcs]; rfl);have HX3 : Hid (cs.toArray[3]? = some (.int .i64 x.wh.num)) := hid (by rw [hcs]; rfl);have HX4 : Hid (cs.toArray[4]? = some (.slice A2 x.wh.kids.length cap2)) := hid (by rw [hcs]; rfl);have HX5 : Hid (cs.toArray[5]? = some (.slice D x.acts.length dcap)) := hid (by rw [hcs]; rfl);have HRW := hid hrow;have HRD := hid hrd;have HDC := hid hdc;have HDO := hid hdo
    have HDL : Hid (∀ a, D = some a → 0 < x.acts.length → a.block < wr.heap.size) := hid (fun a ha hn => by
     obtain ⟨b2, off2, e2, hc2⟩ := hrd.2 0 _ (List.getElem?_eq_getElem (by have := hrd.1; omega));rw [ha] at e2;injection e2 with e2;rw [e2]
     exact An hc2)
    have HL2 : Hid ((Tryz.prog.info? 45).map (·.size) = some cs.length) := hid (by rw [AB, hcl]);have HL3 : Hid ((Tryz.prog.info? 45).map (·.size) = some cs.toArray.size) := hid (by rw [AB, List.size_toArray, hcl]);have HSZ : Hid (zRl.size = cs.toArray.size) := hid (by show 6 = cs.toArray.size; rw [List.size_toArray, hcl]);have HGW : Hid (g < wr.heap.size) := hid HP0.out.lt;have HQW : Hid (some wr.heap.size ≠ q1) := hid (fun e => by have := (HP0.out.own _ e.symm).2; omega);obtain ⟨NM, hNM⟩ : ∃ NM, bstr x.name = NM := ⟨_, rfl⟩;obtain ⟨JT, hJT⟩ : ∃ JT, bstr (Pr.joinT x.acts) = JT := ⟨_, rfl⟩;have hrt : Pr.ruleT x ++ [10] = ((((⟨#[114, 117, 108, 101, 32]⟩ : ByteArray) ++ NM) ++ (⟨#[32, 119, 104, 101, 110, 32]⟩ : ByteArray) : ByteArray).data.toList ++ Pr.textC x.wh) ++ (((⟨#[32, 100, 111, 32]⟩ : ByteArray) ++ JT) ++ (⟨#[10]⟩ : ByteArray) : ByteArray).data.toList := by
     rw [Au, Au, Au, Au, ← hNM, ← hJT];unfold Pr.ruleT;simp [Cz]
    rw [hrt] at hstp;have hlst := congrArg List.length hstp;simp only [List.length_append] at hlst;have hx1 : (((⟨#[114, 117, 108, 101, 32]⟩ : ByteArray) ++ NM) ++ (⟨#[32, 119, 104, 101, 110, 32]⟩ : ByteArray) : ByteArray).data.toList.length = 11 + NM.size := by rw [← Am, ByteArray.size_append, ByteArray.size_append, show ((⟨#[114, 117, 108, 101, 32]⟩ : ByteArray) : ByteArray).size = 5 from rfl, show ((⟨#[32, 119, 104, 101, 110, 32]⟩ : ByteArray) : ByteArray).size = 6 from rfl]; omega
    have hx2 : (((⟨#[32, 100, 111, 32]⟩ : ByteArray) ++ JT) ++ (⟨#[10]⟩ : ByteArray) : ByteArray).data.toList.length = 5 + JT.size := by rw [← Am, ByteArray.size_append, ByteArray.size_append, show ((⟨#[32, 100, 111, 32]⟩ : ByteArray) : ByteArray).size = 4 from rfl, show ((⟨#[10]⟩ : ByteArray) : ByteArray).size = 1 from rfl]; omega
    obtain ⟨X1, hX1⟩ : ∃ X1, (((⟨#[114, 117, 108, 101, 32]⟩ : ByteArray) ++ NM) ++ (⟨#[32, 119, 104, 101, 110, 32]⟩ : ByteArray) : ByteArray) = X1 := ⟨_, rfl⟩;obtain ⟨X2, hX2⟩ : ∃ X2, (((⟨#[32, 100, 111, 32]⟩ : ByteArray) ++ JT) ++ (⟨#[10]⟩ : ByteArray) : ByteArray) = X2 := ⟨_, rfl⟩;rw [hX1] at hstp hlst hx1;rw [hX2] at hstp hlst hx2;have hxs1 := Am X1;have hxs2 := Am X2
    have HJL : Hid ((Pr.joinT x.acts).length ≤ 1000000) := hid (by
     have : JT.size = (Pr.joinT x.acts).length := by rw [← hJT]; exact Ai _
     omega)
    have hr5 : ((⟨#[114, 117, 108, 101, 32]⟩ : ByteArray) : ByteArray).size = 5 := rfl;have hr6 : ((⟨#[32, 119, 104, 101, 110, 32]⟩ : ByteArray) : ByteArray).size = 6 := rfl;have hr4 : ((⟨#[32, 100, 111, 32]⟩ : ByteArray) : ByteArray).size = 4 := rfl;have hr1 : ((⟨#[10]⟩ : ByteArray) : ByteArray).size = 1 := rfl;have hp1 : ¬ 9223372036854775807 < 5 + NM.size := by omega
    have hp2 : ¬ 9223372036854775807 < 5 + NM.size + 6 := by omega
    have hp3 : ¬ 9223372036854775807 < 4 + JT.size := by omega
    have hp4 : ¬ 9223372036854775807 < 4 + JT.size + 1 := by omega
    obtain ⟨oo, hoo⟩ : ∃ oo, Pr.printT (l.take k) = oo := ⟨_, rfl⟩;rw [hoo] at hstp hlst;have HP := HP0;rw [hoo] at HP;have HZ1 : Hid (X1.size ≤ 10000000000 ∧ oo.length ≤ 10000000000) := hid ⟨by omega, by omega⟩;have HZ2 : Hid ((oo ++ X1.data.toList).length + (Pr.textC x.wh).length ≤ 1000000) := hid (by rw [List.length_append]; omega);have HZ3 : Hid (X2.size ≤ 10000000000 ∧ ((oo ++ X1.data.toList) ++ Pr.textC x.wh).length ≤ 10000000000) := hid ⟨by omega, by rw [List.length_append, List.length_append]; omega⟩;have HST : Hid (Pr.printT (l.take (k + 1)) = ((oo ++ X1.data.toList) ++ Pr.textC x.wh) ++ X2.data.toList) := hid (by rw [hstp]; simp [List.append_assoc]);have HX1E := hid hX1;have HX2E := hid hX2;have HNM := hid hNM;have HJT := hid hJT;rw [hNM] at HX0;clear hx hcs HP0 hstp hoo hrow hrd hdc hdo hrt hlst hx1 hx2 hxs1 hxs2 hX1 hX2 hNM hJT
    go_wp2_with (first
     | ((with_reducible refine wpList_load_mid rfl 45 _ rfl b (off + k * 6) ?_ cs _ hr Tryz.underlying45 ?_ HL2.out ?_); rfl; rfl)
     | ((with_reducible refine Ah rfl 45 _ _ rfl wr.heap.size cs.toArray ?_ ?_ 45 _ (Blk.new wr 45 _) HL3.out ?_ hone ?_); rfl; rfl; exact HSZ.out; intro w3 hk3 hs3 hbl3; have HB3 : Hid (Below wr.heap.size wr w3) := hid (((Below.refl _ wr).alloc (Nat.le_refl _) (.cells zRl 45)).trans (hbl3 wr.heap.size (Nat.le_refl _))); have HP3 := hid (HP.out.bel HB3.out); have HK3 := hid (HKR.out.tr (PrK.of_bel HB3.out)); have HV3 := hid hk3; have hc0 := AM HV3.out HX0.out; clear hk3 hs3 hbl3))
    go_wp2_with (go_at_call 34; rw [HX1E.out]; refine (Az g q1 oo X1 w3 HP3.out HZ1.out).mono ?_; rintro e w4 ⟨rfl, q4, hp4', hk4⟩; have HP4 := hid hp4'; have HK4 := hid (HK3.out.tr hk4); have HK34 := hid hk4; have HV4 := hid (HV3.out.prk hk4 (by have := HGW.out; omega) HQW.out); have HQ4 : Hid (some wr.heap.size ≠ q4) := hid (hk4.apart HV3.out.lt HQW.out); have HA4 := hid ((HRW.out.below HB3.out).prk hk4); have hd1 := AM HV4.out HX1.out; have hd2 := AM HV4.out HX2.out; have hd3 := AM HV4.out HX3.out; have hd4 := AM HV4.out HX4.out; clear hp4' hk4);refine (DM 1000000 (Nat.le_refl _) g q4 (oo ++ X1.data.toList) x.wh _ w4 HGX.out.2.2.1 HP4.out (CnV.of HA4.out cap2) HFX.out.tree HZ2.out).mono ?_;rintro e w5 ⟨rfl, q5, hp5', hk5⟩;have HP5 := hid hp5';have HK5 := hid (HK4.out.tr hk5);have HV5 := hid (HV4.out.prk hk5 (by have := HGW.out; omega) HQ4.out);have hc5 := AM HV5.out HX5.out;have HKW := hid (((PrK.of_bel HB3.out).tr HK34.out).tr hk5);have HD5 : Hid (Rd w5 D x.acts.length (strL x.acts)) := hid (CW HRD.out (fun a ha hn => HKW.out.block a.block (HDL.out a ha hn) (HDO.out a ha hn).1 (HDO.out a ha hn).2));clear hp5' hk5 HKW
    go_wp2_with (first
     | (go_at_call 36; refine (EX D dcap x.acts w5 HD5.out HDC.out HFX.out.some_ HJL.out (by have := HFX.out.few; omega)).mono ?_; rintro e w6 ⟨rfl, hb6⟩; rw [HJT.out]; have HP6 := hid (HP5.out.bel hb6); have HK6 := hid (HK5.out.tr (PrK.of_bel hb6)); clear hb6)
     | (go_at_call 34; rw [HX2E.out]; refine (Az g q5 ((oo ++ X1.data.toList) ++ Pr.textC x.wh) X2 w6 HP6.out HZ3.out).mono ?_; rintro e w7 ⟨rfl, q7, hp7, hk7⟩; have HP7 := hid hp7; have HK7 := hid (HK6.out.tr hk7); clear hp7 hk7))
    go_roundw
    case rel => exact ⟨k + 1, q7, by omega, by go_num, by rw [HST.out]; exact HP7.out, HK7.out⟩
    case measure => simp [RowKit.intOf]; omega
   ·obtain rfl : k = l.length := by omega
    have htk : l.take l.length = l := List.take_length;have HF := HP0;rw [htk] at HF;clear HP0 htk;have HBE : Hid (Below w.heap.size w wr) := hid (HB2.out.trans ((HKR.out.below (Nat.le_of_lt HP2.out.lt) (fun k hk => by cases hk)).mono hgw));by_cases h20 : 20000 < (Pr.printT l).length
    ·have h20i : (20000 : Int) < ((Pr.printT l).length : Int) := by omega
     have HPP := hid (Pr.printP_long HE.out h20);go_wp2_with (go_at_call 37; refine (EE g q1 _ wr HF.out).mono ?_; rintro e w6 ⟨rfl, rfl⟩)
     go_ret2
     exact ⟨by rw [HPP.out]; rfl, HBE.out⟩
    ·have h20i : ¬ (20000 : Int) < ((Pr.printT l).length : Int) := by omega
     have HPP := hid (Pr.printP_done HE.out h20)
     go_wp2_with (first
      | (go_at_call 37; refine (EE g q1 _ wr HF.out).mono ?_; rintro e w6 ⟨rfl, rfl⟩)
      | (go_at_call 38; refine (GN g q1 _ _ HF.out).mono ?_; rintro e w7 ⟨rfl, hb7⟩))
     go_ret2
     exact ⟨by rw [HPP.out]; rfl, HBE.out.trans (hb7.mono hgw)⟩
 ·have HPP := hid (Pr.printP_bad hE);generalize Pr.checkE l = F at *;have hFb : (F == 0) = false := beq_eq_false_iff_ne.2 hE;have hFn : (F != 0) = true := by rw [bne, hFb]; rfl
  clear hE;go_enter Tryz.func12, Tryz.ntmps12;go_wp2_with (go_at_call 23; refine HCK.out.mono ?_; rintro e w1 ⟨rfl, hb1⟩)
  go_ret2
  exact ⟨by rw [HPP.out]; rfl, hb1⟩
end Go.Proofs.YtchkiegehejfmaaGreatDoor
