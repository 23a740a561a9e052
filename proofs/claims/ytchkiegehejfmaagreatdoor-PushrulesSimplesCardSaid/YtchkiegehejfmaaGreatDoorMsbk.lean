/- The texts Ze, Zf of this proof, one behind the other. -/
import Derived.Test.YtchkiegehejfmaaGreatDoorMsbj
import Derived.Test.YtchkiegehejfmaaGreatDoorMsag
set_option linter.unusedSimpArgs false
set_option maxHeartbeats 16000000
set_option maxRecDepth 100000
set_option linter.unusedVariables false
namespace Go.Proofs.YtchkiegehejfmaaGreatDoor
open Go.RowKit Go.Lib
theorem Hq (g : Nat) (q : Option Nat) (out : List UInt8) (T : ByteArray) (n : Int) (A : Option Addr) (L cap : Nat) (w : World) (h : PrS w g q out) (hlen : out.length ≤ 1000000000) (hn : Ar.inInt n) :
  Calls Tryz.prog 35 #[.pointer (some ⟨g, 0, none⟩), .agg #[.int .i64 10, .string T, .int .i64 n, .slice A L cap]] w fun e w' => e = .returned (.tuple #[]) ∧ ∃ q', PrS w' g q' (out ++ Pr.leafT (10) T.data.toList (n)) ∧ PrK w g q w' q' := by
 have hE : Pr.leafT 10 T.data.toList n = (bstr (Pr.fieldW 10) ++ (⟨#[32]⟩ : ByteArray) ++ bstr (Ar.itoa n)).data.toList := by
  rw [Au, Au, List.append_assoc];rfl
 have hfs : (bstr (Pr.fieldW 10)).size ≤ 7 := by rw [Ai]; exact Bd 10
 have hes : (bstr (Ar.itoa n)).size ≤ 4000002 := by
  rw [Ai];have := C2 n hn; omega
 have HCE : Hid (∀ W, Calls Tryz.prog 75 #[.int .i64 n] W fun e w' => e = .returned (.string (bstr (Ar.itoa n))) ∧ Below W.heap.size W w') := hid (fun W => B0 n W hn);have HCF : Hid (∀ W, Calls Tryz.prog 73 #[.int .i64 10] W fun e w' => e = .returned (.string (bstr (Pr.fieldW 10))) ∧ W = w') := hid (fun W => A6 10 (by decide) (by decide) W);have HE := hid hE;clear hE;generalize bstr (Pr.fieldW 10) = F at *;generalize bstr (Ar.itoa n) = E at *;have hz1 : (⟨#[32]⟩ : ByteArray).size = 1 := rfl;have HZX : Hid ((F ++ (⟨#[32]⟩ : ByteArray) ++ E).size ≤ 5000000) := hid (by rw [ByteArray.size_append, ByteArray.size_append, hz1]; omega);have hp1 : ¬ 9223372036854775807 < F.size + 1 := by omega
 have hp2 : ¬ 9223372036854775807 < F.size + 1 + E.size := by omega
 have hb1 : Below w.heap.size w (w.alloc (.cells #[.int .i64 10, .string T, .int .i64 n, .slice A L cap] 36)).drew := ((Below.refl w.heap.size w).alloc (Nat.le_refl _) _).drew;have hv0 := Blk.new w 36 #[.int .i64 10, .string T, .int .i64 n, .slice A L cap];have hv1 : Blk (w.alloc (.cells #[.int .i64 10, .string T, .int .i64 n, .slice A L cap] 36)).drew w.heap.size 36 #[.int .i64 10, .string T, .int .i64 n, .slice A L cap] := hv0.drew;have HC0 : Hid ((w.alloc (.cells #[.int .i64 10, .string T, .int .i64 n, .slice A L cap] 36)).drew.cell? ⟨w.heap.size, 0, none⟩ = some (.int .i64 10) ∧ (w.alloc (.cells #[.int .i64 10, .string T, .int .i64 n, .slice A L cap] 36)).drew.cell? ⟨w.heap.size, 1, none⟩ = some (.string T) ∧ (w.alloc (.cells #[.int .i64 10, .string T, .int .i64 n, .slice A L cap] 36)).drew.cell? ⟨w.heap.size, 2, none⟩ = some (.int .i64 n)) := hid ⟨hv1.cell 0, hv1.cell 1, hv1.cell 2⟩;have HGL := hid h.lt;have HQN : Hid (some w.heap.size ≠ q) := hid (fun e => by have := (h.own _ e.symm).2; omega);obtain ⟨w1, hw1⟩ : ∃ w1, (w.alloc (.cells #[.int .i64 10, .string T, .int .i64 n, .slice A L cap] 36)).drew = w1 := ⟨_, rfl⟩;rw [hw1] at hb1 hv1;have HP1 := hid (h.bel hb1);have HK1 : Hid (PrK w g q w1 q) := hid (PrK.of_bel hb1);have HV1 := hid hv1;have HZ1 : Hid (w.heap.size < w1.heap.size) := hid hv1.lt;have HW1 := hid hw1;clear h hb1 hv0 hv1 hw1;go_enter Tryz.func35, Tryz.ntmps35;go_wp2_with fail;refine wp_region_noPanic ?_;refine wp_region_held_drew (S := fun W => W.cell? ⟨w.heap.size, 0, none⟩ = some (.int .i64 10) ∧ W.cell? ⟨w.heap.size, 1, none⟩ = some (.string T) ∧ W.cell? ⟨w.heap.size, 2, none⟩ = some (.int .i64 n)) (by kernel_rfl) HC0.out (fun hHeld => ?_);rw [HW1.out] at hHeld ⊢;refine wpAnyH_take (i := 0) (oi := _) (v := ?_) rfl (by kernel_rfl) (by kernel_rfl) (by kernel_rfl) (fun _ _ _ h => h) (Or.inl ⟨by rfl, ?_⟩) hHeld ?_;rotate_left
 ·intro wq hSw;obtain ⟨hSw0, hSw1, hSw2⟩ := hSw;go_simp
  (try with_reducible rfl)
 (try simp only [Act.put, pk1, pk2, pk3, pk4, pk5, pk6])
 refine wpAnyH_take (i := 1) (oi := _) (v := ?_) rfl (by kernel_rfl) (by kernel_rfl) (by kernel_rfl) (fun _ _ _ h => h) (Or.inl ⟨by rfl, ?_⟩) hHeld ?_;rotate_left
 ·intro wq hSw;obtain ⟨hSw0, hSw1, hSw2⟩ := hSw;go_simp
  (try with_reducible rfl)
 (try simp only [Act.put, pk1, pk2, pk3, pk4, pk5, pk6])
 refine wpAnyH_take (i := 2) (oi := _) (v := ?_) rfl (by kernel_rfl) (by kernel_rfl) (by kernel_rfl) (fun _ _ _ h => h) (Or.inl ⟨by rfl, ?_⟩) hHeld ?_;rotate_left
 ·intro wq hSw;obtain ⟨hSw0, hSw1, hSw2⟩ := hSw;go_simp
  (try with_reducible rfl)
 (try simp only [Act.put, pk1, pk2, pk3, pk4, pk5, pk6])
 refine wpAnyH_take (i := 3) (oi := _) (v := ?_) rfl (by kernel_rfl) (by kernel_rfl) (by kernel_rfl) (fun _ _ _ h => h) (Or.inl ⟨by rfl, ?_⟩) hHeld ?_;rotate_left
 ·intro wq hSw;obtain ⟨hSw0, hSw1, hSw2⟩ := hSw;go_simp
  (try with_reducible rfl)
 (try simp only [Act.put, pk1, pk2, pk3, pk4, pk5, pk6])
 refine wpAnyH_take (i := 4) (oi := _) (v := ?_) rfl (by kernel_rfl) (by kernel_rfl) (by kernel_rfl) (fun _ _ _ h => h) (Or.inl ⟨by rfl, ?_⟩) hHeld ?_;rotate_left
 ·intro wq hSw;obtain ⟨hSw0, hSw1, hSw2⟩ := hSw;go_simp
  (try with_reducible rfl)
 (try simp only [Act.put, pk1, pk2, pk3, pk4, pk5, pk6])
 refine wpAnyH_take (i := 7) (oi := _) (v := ?_) rfl (by kernel_rfl) (by kernel_rfl) (by kernel_rfl) (fun _ _ _ h => h) (Or.inl ⟨by rfl, ?_⟩) hHeld ?_;rotate_left
 ·intro wq hSw;obtain ⟨hSw0, hSw1, hSw2⟩ := hSw;go_simp
  (try with_reducible rfl)
 (try simp only [Act.put, pk1, pk2, pk3, pk4, pk5, pk6])
 refine wpAnyH_take (i := 8) (oi := _) (v := ?_) rfl (by kernel_rfl) (by kernel_rfl) (by kernel_rfl) (fun _ _ _ h => h) (Or.inl ⟨by rfl, ?_⟩) hHeld ?_;rotate_left
 ·intro wq hSw;obtain ⟨hSw0, hSw1, hSw2⟩ := hSw;go_simp
  (try with_reducible rfl)
 (try simp only [Act.put, pk1, pk2, pk3, pk4, pk5, pk6])
 refine wpAnyH_ready (rs := [5]) (by kernel_rfl) (by simp) ?_;refine AllReadyH.cons (o := _) rfl (fun K hK => ?_) AllReadyH.nil;go_simp
 go_at_call 73
 refine (HCF.out w1).mono ?_;rintro e wq ⟨rfl, rfl⟩;refine hK.out _ _ hHeld (fun hHeld2 => ?_);clear hK K hHeld;have hHeld := hHeld2;clear hHeld2
 (try simp only [Act.put, pk1, pk2, pk3, pk4, pk5, pk6])
 refine wpAnyH_take (i := 6) (oi := _) (v := ?_) rfl (by kernel_rfl) (by kernel_rfl) (by kernel_rfl) (fun _ _ _ h => h) (Or.inl ⟨by rfl, ?_⟩) hHeld ?_;rotate_left
 ·intro wq hSw;obtain ⟨hSw0, hSw1, hSw2⟩ := hSw;go_simp
  (try with_reducible rfl)
 (try simp only [Act.put, pk1, pk2, pk3, pk4, pk5, pk6])
 refine wpAnyH_ready (rs := [9]) (by kernel_rfl) (by simp) ?_;refine AllReadyH.cons (o := _) rfl (fun K hK => ?_) AllReadyH.nil;go_simp
 go_at_call 75
 refine (HCE.out w1).mono ?_;rintro e w2 ⟨rfl, hb2⟩;have HP2 := hid (HP1.out.bel hb2);have HK2 := hid (HK1.out.tr (PrK.of_bel hb2));have HV2 := hid (HV1.out.below hb2 HV1.out.lt);have HZ2 : Hid (w.heap.size < w2.heap.size) := hid HV2.out.lt;refine hK.out _ _ ⟨HV2.out.cell 0, HV2.out.cell 1, HV2.out.cell 2⟩ (fun hHeld2 => ?_);clear hb2;clear hK K hHeld;have hHeld := hHeld2;clear hHeld2
 (try simp only [Act.put, pk1, pk2, pk3, pk4, pk5, pk6])
 refine wpAnyH_take (i := 10) (oi := _) (v := ?_) rfl (by kernel_rfl) (by kernel_rfl) (by kernel_rfl) (fun _ _ _ h => h) (Or.inl ⟨by rfl, ?_⟩) hHeld ?_;rotate_left
 ·intro wq hSw;obtain ⟨hSw0, hSw1, hSw2⟩ := hSw;go_simp
  (try with_reducible rfl)
 (try simp only [Act.put, pk1, pk2, pk3, pk4, pk5, pk6])
 refine wpAnyH_ready (rs := [11]) (by kernel_rfl) (by simp) ?_;refine AllReadyH.cons (o := _) rfl (fun K hK => ?_) AllReadyH.nil;go_simp
 go_at_call 34
 refine (Az g q out _ w2 HP2.out ⟨by have := HZX.out; omega, by omega⟩).mono ?_;rintro e w9 ⟨rfl, q9, hp9, hk9⟩;have HV9 := hid (HV2.out.prk hk9 (by have := HGL.out; omega) HQN.out);have HP9 := hid hp9;have HK9 := hid (HK2.out.tr hk9);clear hp9 hk9;refine hK.out _ _ ⟨HV9.out.cell 0, HV9.out.cell 1, HV9.out.cell 2⟩ (fun _ => ?_);clear hK K hHeld;refine wpAnyH_done (by kernel_rfl) ?_ _;refine NoPanic.normal ?_;go_wp2_with fail
 go_end0
 exact ⟨rfl, q9, by rw [HE.out]; exact HP9.out, HK9.out⟩
theorem Id (g : Nat) (q : Option Nat) (out : List UInt8) (T : ByteArray) (n : Int) (A : Option Addr) (L cap : Nat) (w : World) (h : PrS w g q out) (hlen : out.length ≤ 1000000000) (hn : Ar.inInt n) :
  Calls Tryz.prog 35 #[.pointer (some ⟨g, 0, none⟩), .agg #[.int .i64 11, .string T, .int .i64 n, .slice A L cap]] w fun e w' => e = .returned (.tuple #[]) ∧ ∃ q', PrS w' g q' (out ++ Pr.leafT (11) T.data.toList (n)) ∧ PrK w g q w' q' := by
 have hE : Pr.leafT 11 T.data.toList n = (bstr (Pr.fieldW 11) ++ (⟨#[32]⟩ : ByteArray) ++ bstr (Ar.itoa n)).data.toList := by
  rw [Au, Au, List.append_assoc];rfl
 have hfs : (bstr (Pr.fieldW 11)).size ≤ 7 := by rw [Ai]; exact Bd 11
 have hes : (bstr (Ar.itoa n)).size ≤ 4000002 := by
  rw [Ai];have := C2 n hn; omega
 have HCE : Hid (∀ W, Calls Tryz.prog 75 #[.int .i64 n] W fun e w' => e = .returned (.string (bstr (Ar.itoa n))) ∧ Below W.heap.size W w') := hid (fun W => B0 n W hn);have HCF : Hid (∀ W, Calls Tryz.prog 73 #[.int .i64 11] W fun e w' => e = .returned (.string (bstr (Pr.fieldW 11))) ∧ W = w') := hid (fun W => A6 11 (by decide) (by decide) W);have HE := hid hE;clear hE;generalize bstr (Pr.fieldW 11) = F at *;generalize bstr (Ar.itoa n) = E at *;have hz1 : (⟨#[32]⟩ : ByteArray).size = 1 := rfl;have HZX : Hid ((F ++ (⟨#[32]⟩ : ByteArray) ++ E).size ≤ 5000000) := hid (by rw [ByteArray.size_append, ByteArray.size_append, hz1]; omega);have hp1 : ¬ 9223372036854775807 < F.size + 1 := by omega
 have hp2 : ¬ 9223372036854775807 < F.size + 1 + E.size := by omega
 have hb1 : Below w.heap.size w (w.alloc (.cells #[.int .i64 11, .string T, .int .i64 n, .slice A L cap] 36)).drew := ((Below.refl w.heap.size w).alloc (Nat.le_refl _) _).drew;have hv0 := Blk.new w 36 #[.int .i64 11, .string T, .int .i64 n, .slice A L cap];have hv1 : Blk (w.alloc (.cells #[.int .i64 11, .string T, .int .i64 n, .slice A L cap] 36)).drew w.heap.size 36 #[.int .i64 11, .string T, .int .i64 n, .slice A L cap] := hv0.drew;have HC0 : Hid ((w.alloc (.cells #[.int .i64 11, .string T, .int .i64 n, .slice A L cap] 36)).drew.cell? ⟨w.heap.size, 0, none⟩ = some (.int .i64 11) ∧ (w.alloc (.cells #[.int .i64 11, .string T, .int .i64 n, .slice A L cap] 36)).drew.cell? ⟨w.heap.size, 1, none⟩ = some (.string T) ∧ (w.alloc (.cells #[.int .i64 11, .string T, .int .i64 n, .slice A L cap] 36)).drew.cell? ⟨w.heap.size, 2, none⟩ = some (.int .i64 n)) := hid ⟨hv1.cell 0, hv1.cell 1, hv1.cell 2⟩;have HGL := hid h.lt;have HQN : Hid (some w.heap.size ≠ q) := hid (fun e => by have := (h.own _ e.symm).2; omega);obtain ⟨w1, hw1⟩ : ∃ w1, (w.alloc (.cells #[.int .i64 11, .string T, .int .i64 n, .slice A L cap] 36)).drew = w1 := ⟨_, rfl⟩;rw [hw1] at hb1 hv1;have HP1 := hid (h.bel hb1);have HK1 : Hid (PrK w g q w1 q) := hid (PrK.of_bel hb1);have HV1 := hid hv1;have HZ1 : Hid (w.heap.size < w1.heap.size) := hid hv1.lt;have HW1 := hid hw1;clear h hb1 hv0 hv1 hw1;go_enter Tryz.func35, Tryz.ntmps35;go_wp2_with fail;refine wp_region_noPanic ?_;refine wp_region_held_drew (S := fun W => W.cell? ⟨w.heap.size, 0, none⟩ = some (.int .i64 11) ∧ W.cell? ⟨w.heap.size, 1, none⟩ = some (.string T) ∧ W.cell? ⟨w.heap.size, 2, none⟩ = some (.int .i64 n)) (by kernel_rfl) HC0.out (fun hHeld => ?_);rw [HW1.out] at hHeld ⊢;refine wpAnyH_take (i := 0) (oi := _) (v := ?_) rfl (by kernel_rfl) (by kernel_rfl) (by kernel_rfl) (fun _ _ _ h => h) (Or.inl ⟨by rfl, ?_⟩) hHeld ?_;rotate_left
 ·intro wq hSw;obtain ⟨hSw0, hSw1, hSw2⟩ := hSw;go_simp
  (try with_reducible rfl)
 (try simp only [Act.put, pk1, pk2, pk3, pk4, pk5, pk6])
 refine wpAnyH_take (i := 1) (oi := _) (v := ?_) rfl (by kernel_rfl) (by kernel_rfl) (by kernel_rfl) (fun _ _ _ h => h) (Or.inl ⟨by rfl, ?_⟩) hHeld ?_;rotate_left
 ·intro wq hSw;obtain ⟨hSw0, hSw1, hSw2⟩ := hSw;go_simp
  (try with_reducible rfl)
 (try simp only [Act.put, pk1, pk2, pk3, pk4, pk5, pk6])
 refine wpAnyH_take (i := 2) (oi := _) (v := ?_) rfl (by kernel_rfl) (by kernel_rfl) (by kernel_rfl) (fun _ _ _ h => h) (Or.inl ⟨by rfl, ?_⟩) hHeld ?_;rotate_left
 ·intro wq hSw;obtain ⟨hSw0, hSw1, hSw2⟩ := hSw;go_simp
  (try with_reducible rfl)
 (try simp only [Act.put, pk1, pk2, pk3, pk4, pk5, pk6])
 refine wpAnyH_take (i := 3) (oi := _) (v := ?_) rfl (by kernel_rfl) (by kernel_rfl) (by kernel_rfl) (fun _ _ _ h => h) (Or.inl ⟨by rfl, ?_⟩) hHeld ?_;rotate_left
 ·intro wq hSw;obtain ⟨hSw0, hSw1, hSw2⟩ := hSw;go_simp
  (try with_reducible rfl)
 (try simp only [Act.put, pk1, pk2, pk3, pk4, pk5, pk6])
 refine wpAnyH_take (i := 4) (oi := _) (v := ?_) rfl (by kernel_rfl) (by kernel_rfl) (by kernel_rfl) (fun _ _ _ h => h) (Or.inl ⟨by rfl, ?_⟩) hHeld ?_;rotate_left
 ·intro wq hSw;obtain ⟨hSw0, hSw1, hSw2⟩ := hSw;go_simp
  (try with_reducible rfl)
 (try simp only [Act.put, pk1, pk2, pk3, pk4, pk5, pk6])
 refine wpAnyH_take (i := 7) (oi := _) (v := ?_) rfl (by kernel_rfl) (by kernel_rfl) (by kernel_rfl) (fun _ _ _ h => h) (Or.inl ⟨by rfl, ?_⟩) hHeld ?_;rotate_left
 ·intro wq hSw;obtain ⟨hSw0, hSw1, hSw2⟩ := hSw;go_simp
  (try with_reducible rfl)
 (try simp only [Act.put, pk1, pk2, pk3, pk4, pk5, pk6])
 refine wpAnyH_take (i := 8) (oi := _) (v := ?_) rfl (by kernel_rfl) (by kernel_rfl) (by kernel_rfl) (fun _ _ _ h => h) (Or.inl ⟨by rfl, ?_⟩) hHeld ?_;rotate_left
 ·intro wq hSw;obtain ⟨hSw0, hSw1, hSw2⟩ := hSw;go_simp
  (try with_reducible rfl)
 (try simp only [Act.put, pk1, pk2, pk3, pk4, pk5, pk6])
 refine wpAnyH_ready (rs := [5]) (by kernel_rfl) (by simp) ?_;refine AllReadyH.cons (o := _) rfl (fun K hK => ?_) AllReadyH.nil;go_simp
 go_at_call 73
 refine (HCF.out w1).mono ?_;rintro e wq ⟨rfl, rfl⟩;refine hK.out _ _ hHeld (fun hHeld2 => ?_);clear hK K hHeld;have hHeld := hHeld2;clear hHeld2
 (try simp only [Act.put, pk1, pk2, pk3, pk4, pk5, pk6])
 refine wpAnyH_take (i := 6) (oi := _) (v := ?_) rfl (by kernel_rfl) (by kernel_rfl) (by kernel_rfl) (fun _ _ _ h => h) (Or.inl ⟨by rfl, ?_⟩) hHeld ?_;rotate_left
 ·intro wq hSw;obtain ⟨hSw0, hSw1, hSw2⟩ := hSw;go_simp
  (try with_reducible rfl)
 (try simp only [Act.put, pk1, pk2, pk3, pk4, pk5, pk6])
 refine wpAnyH_ready (rs := [9]) (by kernel_rfl) (by simp) ?_;refine AllReadyH.cons (o := _) rfl (fun K hK => ?_) AllReadyH.nil;go_simp
 go_at_call 75
 refine (HCE.out w1).mono ?_;rintro e w2 ⟨rfl, hb2⟩;have HP2 := hid (HP1.out.bel hb2);have HK2 := hid (HK1.out.tr (PrK.of_bel hb2));have HV2 := hid (HV1.out.below hb2 HV1.out.lt);have HZ2 : Hid (w.heap.size < w2.heap.size) := hid HV2.out.lt;refine hK.out _ _ ⟨HV2.out.cell 0, HV2.out.cell 1, HV2.out.cell 2⟩ (fun hHeld2 => ?_);clear hb2;clear hK K hHeld;have hHeld := hHeld2;clear hHeld2
 (try simp only [Act.put, pk1, pk2, pk3, pk4, pk5, pk6])
 refine wpAnyH_take (i := 10) (oi := _) (v := ?_) rfl (by kernel_rfl) (by kernel_rfl) (by kernel_rfl) (fun _ _ _ h => h) (Or.inl ⟨by rfl, ?_⟩) hHeld ?_;rotate_left
 ·intro wq hSw;obtain ⟨hSw0, hSw1, hSw2⟩ := hSw;go_simp
  (try with_reducible rfl)
 (try simp only [Act.put, pk1, pk2, pk3, pk4, pk5, pk6])
 refine wpAnyH_ready (rs := [11]) (by kernel_rfl) (by simp) ?_;refine AllReadyH.cons (o := _) rfl (fun K hK => ?_) AllReadyH.nil;go_simp
 go_at_call 34
 refine (Az g q out _ w2 HP2.out ⟨by have := HZX.out; omega, by omega⟩).mono ?_;rintro e w9 ⟨rfl, q9, hp9, hk9⟩;have HV9 := hid (HV2.out.prk hk9 (by have := HGL.out; omega) HQN.out);have HP9 := hid hp9;have HK9 := hid (HK2.out.tr hk9);clear hp9 hk9;refine hK.out _ _ ⟨HV9.out.cell 0, HV9.out.cell 1, HV9.out.cell 2⟩ (fun _ => ?_);clear hK K hHeld;refine wpAnyH_done (by kernel_rfl) ?_ _;refine NoPanic.normal ?_;go_wp2_with fail
 go_end0
 exact ⟨rfl, q9, by rw [HE.out]; exact HP9.out, HK9.out⟩
theorem Ia (g : Nat) (q : Option Nat) (out : List UInt8) (T : ByteArray) (n : Int) (A : Option Addr) (L cap : Nat) (w : World) (h : PrS w g q out) (hlen : out.length ≤ 1000000000) (hn : Ar.inInt n) :
  Calls Tryz.prog 35 #[.pointer (some ⟨g, 0, none⟩), .agg #[.int .i64 12, .string T, .int .i64 n, .slice A L cap]] w fun e w' => e = .returned (.tuple #[]) ∧ ∃ q', PrS w' g q' (out ++ Pr.leafT (12) T.data.toList (n)) ∧ PrK w g q w' q' := by
 have hE : Pr.leafT 12 T.data.toList n = (bstr (Pr.fieldW 12) ++ (⟨#[32]⟩ : ByteArray) ++ bstr (Ar.itoa n)).data.toList := by
  rw [Au, Au, List.append_assoc];rfl
 have hfs : (bstr (Pr.fieldW 12)).size ≤ 7 := by rw [Ai]; exact Bd 12
 have hes : (bstr (Ar.itoa n)).size ≤ 4000002 := by
  rw [Ai];have := C2 n hn; omega
 have HCE : Hid (∀ W, Calls Tryz.prog 75 #[.int .i64 n] W fun e w' => e = .returned (.string (bstr (Ar.itoa n))) ∧ Below W.heap.size W w') := hid (fun W => B0 n W hn);have HCF : Hid (∀ W, Calls Tryz.prog 73 #[.int .i64 12] W fun e w' => e = .returned (.string (bstr (Pr.fieldW 12))) ∧ W = w') := hid (fun W => A6 12 (by decide) (by decide) W);have HE := hid hE;clear hE;generalize bstr (Pr.fieldW 12) = F at *;generalize bstr (Ar.itoa n) = E at *;have hz1 : (⟨#[32]⟩ : ByteArray).size = 1 := rfl;have HZX : Hid ((F ++ (⟨#[32]⟩ : ByteArray) ++ E).size ≤ 5000000) := hid (by rw [ByteArray.size_append, ByteArray.size_append, hz1]; omega);have hp1 : ¬ 9223372036854775807 < F.size + 1 := by omega
 have hp2 : ¬ 9223372036854775807 < F.size + 1 + E.size := by omega
 have hb1 : Below w.heap.size w (w.alloc (.cells #[.int .i64 12, .string T, .int .i64 n, .slice A L cap] 36)).drew := ((Below.refl w.heap.size w).alloc (Nat.le_refl _) _).drew;have hv0 := Blk.new w 36 #[.int .i64 12, .string T, .int .i64 n, .slice A L cap];have hv1 : Blk (w.alloc (.cells #[.int .i64 12, .string T, .int .i64 n, .slice A L cap] 36)).drew w.heap.size 36 #[.int .i64 12, .string T, .int .i64 n, .slice A L cap] := hv0.drew;have HC0 : Hid ((w.alloc (.cells #[.int .i64 12, .string T, .int .i64 n, .slice A L cap] 36)).drew.cell? ⟨w.heap.size, 0, none⟩ = some (.int .i64 12) ∧ (w.alloc (.cells #[.int .i64 12, .string T, .int .i64 n, .slice A L cap] 36)).drew.cell? ⟨w.heap.size, 1, none⟩ = some (.string T) ∧ (w.alloc (.cells #[.int .i64 12, .string T, .int .i64 n, .slice A L cap] 36)).drew.cell? ⟨w.heap.size, 2, none⟩ = some (.int .i64 n)) := hid ⟨hv1.cell 0, hv1.cell 1, hv1.cell 2⟩;have HGL := hid h.lt;have HQN : Hid (some w.heap.size ≠ q) := hid (fun e => by have := (h.own _ e.symm).2; omega);obtain ⟨w1, hw1⟩ : ∃ w1, (w.alloc (.cells #[.int .i64 12, .string T, .int .i64 n, .slice A L cap] 36)).drew = w1 := ⟨_, rfl⟩;rw [hw1] at hb1 hv1;have HP1 := hid (h.bel hb1);have HK1 : Hid (PrK w g q w1 q) := hid (PrK.of_bel hb1);have HV1 := hid hv1;have HZ1 : Hid (w.heap.size < w1.heap.size) := hid hv1.lt;have HW1 := hid hw1;clear h hb1 hv0 hv1 hw1;go_enter Tryz.func35, Tryz.ntmps35;go_wp2_with fail;refine wp_region_noPanic ?_;refine wp_region_held_drew (S := fun W => W.cell? ⟨w.heap.size, 0, none⟩ = some (.int .i64 12) ∧ W.cell? ⟨w.heap.size, 1, none⟩ = some (.string T) ∧ W.cell? ⟨w.heap.size, 2, none⟩ = some (.int .i64 n)) (by kernel_rfl) HC0.out (fun hHeld => ?_);rw [HW1.out] at hHeld ⊢;refine wpAnyH_take (i := 0) (oi := _) (v := ?_) rfl (by kernel_rfl) (by kernel_rfl) (by kernel_rfl) (fun _ _ _ h => h) (Or.inl ⟨by rfl, ?_⟩) hHeld ?_;rotate_left
 ·intro wq hSw;obtain ⟨hSw0, hSw1, hSw2⟩ := hSw;go_simp
  (try with_reducible rfl)
 (try simp only [Act.put, pk1, pk2, pk3, pk4, pk5, pk6])
 refine wpAnyH_take (i := 1) (oi := _) (v := ?_) rfl (by kernel_rfl) (by kernel_rfl) (by kernel_rfl) (fun _ _ _ h => h) (Or.inl ⟨by rfl, ?_⟩) hHeld ?_;rotate_left
 ·intro wq hSw;obtain ⟨hSw0, hSw1, hSw2⟩ := hSw;go_simp
  (try with_reducible rfl)
 (try simp only [Act.put, pk1, pk2, pk3, pk4, pk5, pk6])
 refine wpAnyH_take (i := 2) (oi := _) (v := ?_) rfl (by kernel_rfl) (by kernel_rfl) (by kernel_rfl) (fun _ _ _ h => h) (Or.inl ⟨by rfl, ?_⟩) hHeld ?_;rotate_left
 ·intro wq hSw;obtain ⟨hSw0, hSw1, hSw2⟩ := hSw;go_simp
  (try with_reducible rfl)
 (try simp only [Act.put, pk1, pk2, pk3, pk4, pk5, pk6])
 refine wpAnyH_take (i := 3) (oi := _) (v := ?_) rfl (by kernel_rfl) (by kernel_rfl) (by kernel_rfl) (fun _ _ _ h => h) (Or.inl ⟨by rfl, ?_⟩) hHeld ?_;rotate_left
 ·intro wq hSw;obtain ⟨hSw0, hSw1, hSw2⟩ := hSw;go_simp
  (try with_reducible rfl)
 (try simp only [Act.put, pk1, pk2, pk3, pk4, pk5, pk6])
 refine wpAnyH_take (i := 4) (oi := _) (v := ?_) rfl (by kernel_rfl) (by kernel_rfl) (by kernel_rfl) (fun _ _ _ h => h) (Or.inl ⟨by rfl, ?_⟩) hHeld ?_;rotate_left
 ·intro wq hSw;obtain ⟨hSw0, hSw1, hSw2⟩ := hSw;go_simp
  (try with_reducible rfl)
 (try simp only [Act.put, pk1, pk2, pk3, pk4, pk5, pk6])
 refine wpAnyH_take (i := 7) (oi := _) (v := ?_) rfl (by kernel_rfl) (by kernel_rfl) (by kernel_rfl) (fun _ _ _ h => h) (Or.inl ⟨by rfl, ?_⟩) hHeld ?_;rotate_left
 ·intro wq hSw;obtain ⟨hSw0, hSw1, hSw2⟩ := hSw;go_simp
  (try with_reducible rfl)
 (try simp only [Act.put, pk1, pk2, pk3, pk4, pk5, pk6])
 refine wpAnyH_take (i := 8) (oi := _) (v := ?_) rfl (by kernel_rfl) (by kernel_rfl) (by kernel_rfl) (fun _ _ _ h => h) (Or.inl ⟨by rfl, ?_⟩) hHeld ?_;rotate_left
 ·intro wq hSw;obtain ⟨hSw0, hSw1, hSw2⟩ := hSw;go_simp
  (try with_reducible rfl)
 (try simp only [Act.put, pk1, pk2, pk3, pk4, pk5, pk6])
 refine wpAnyH_ready (rs := [5]) (by kernel_rfl) (by simp) ?_;refine AllReadyH.cons (o := _) rfl (fun K hK => ?_) AllReadyH.nil;go_simp
 go_at_call 73
 refine (HCF.out w1).mono ?_;rintro e wq ⟨rfl, rfl⟩;refine hK.out _ _ hHeld (fun hHeld2 => ?_);clear hK K hHeld;have hHeld := hHeld2;clear hHeld2
 (try simp only [Act.put, pk1, pk2, pk3, pk4, pk5, pk6])
 refine wpAnyH_take (i := 6) (oi := _) (v := ?_) rfl (by kernel_rfl) (by kernel_rfl) (by kernel_rfl) (fun _ _ _ h => h) (Or.inl ⟨by rfl, ?_⟩) hHeld ?_;rotate_left
 ·intro wq hSw;obtain ⟨hSw0, hSw1, hSw2⟩ := hSw;go_simp
  (try with_reducible rfl)
 (try simp only [Act.put, pk1, pk2, pk3, pk4, pk5, pk6])
 refine wpAnyH_ready (rs := [9]) (by kernel_rfl) (by simp) ?_;refine AllReadyH.cons (o := _) rfl (fun K hK => ?_) AllReadyH.nil;go_simp
 go_at_call 75
 refine (HCE.out w1).mono ?_;rintro e w2 ⟨rfl, hb2⟩;have HP2 := hid (HP1.out.bel hb2);have HK2 := hid (HK1.out.tr (PrK.of_bel hb2));have HV2 := hid (HV1.out.below hb2 HV1.out.lt);have HZ2 : Hid (w.heap.size < w2.heap.size) := hid HV2.out.lt;refine hK.out _ _ ⟨HV2.out.cell 0, HV2.out.cell 1, HV2.out.cell 2⟩ (fun hHeld2 => ?_);clear hb2;clear hK K hHeld;have hHeld := hHeld2;clear hHeld2
 (try simp only [Act.put, pk1, pk2, pk3, pk4, pk5, pk6])
 refine wpAnyH_take (i := 10) (oi := _) (v := ?_) rfl (by kernel_rfl) (by kernel_rfl) (by kernel_rfl) (fun _ _ _ h => h) (Or.inl ⟨by rfl, ?_⟩) hHeld ?_;rotate_left
 ·intro wq hSw;obtain ⟨hSw0, hSw1, hSw2⟩ := hSw;go_simp
  (try with_reducible rfl)
 (try simp only [Act.put, pk1, pk2, pk3, pk4, pk5, pk6])
 refine wpAnyH_ready (rs := [11]) (by kernel_rfl) (by simp) ?_;refine AllReadyH.cons (o := _) rfl (fun K hK => ?_) AllReadyH.nil;go_simp
 go_at_call 34
 refine (Az g q out _ w2 HP2.out ⟨by have := HZX.out; omega, by omega⟩).mono ?_;rintro e w9 ⟨rfl, q9, hp9, hk9⟩;have HV9 := hid (HV2.out.prk hk9 (by have := HGL.out; omega) HQN.out);have HP9 := hid hp9;have HK9 := hid (HK2.out.tr hk9);clear hp9 hk9;refine hK.out _ _ ⟨HV9.out.cell 0, HV9.out.cell 1, HV9.out.cell 2⟩ (fun _ => ?_);clear hK K hHeld;refine wpAnyH_done (by kernel_rfl) ?_ _;refine NoPanic.normal ?_;go_wp2_with fail
 go_end0
 exact ⟨rfl, q9, by rw [HE.out]; exact HP9.out, HK9.out⟩
end Go.Proofs.YtchkiegehejfmaaGreatDoor
namespace Pr
def wrapK (o : Int) (x : Cn) : Str := if joint o x.op then 40 :: (textC x ++ [41]) else textC x
theorem textK_step (o : Int) : ∀ (ks : List Cn) (k : Nat) (f : Bool) (x : Cn), ks[k]? = some x → textK o f (ks.take (k + 1)) = textK o f (ks.take k) ++ ((if f = true ∧ k = 0 then [] else 32 :: (sepW o ++ [32])) ++ wrapK o x)
 | [], k, f, x, h => by cases h
 | c :: r, 0, f, x, h => by
  injection h with h;subst h;cases f <;> simp [textK, wrapK]
 | c :: r, k + 1, f, x, h => by
  rw [List.getElem?_cons_succ] at h;rw [List.take_succ_cons, List.take_succ_cons];unfold textK;rw [textK_step o r k false x h];cases f <;> simp [List.append_assoc]
theorem textK_le (o : Int) : ∀ (ks : List Cn) (k : Nat) (f : Bool), (textK o f (ks.take k)).length ≤ (textK o f ks).length
 | [], k, f => by simp
 | c :: r, 0, f => by simp [textK]
 | c :: r, k + 1, f => by
  rw [List.take_succ_cons];unfold textK;have := textK_le o r k false;simp only [List.length_append];omega
theorem treeEL_kid : ∀ (ks : List Cn) (k : Nat) (x : Cn), treeEL ks = 0 → ks[k]? = some x → treeE x = 0
 | [], k, x, _, h => by cases h
 | c :: r, 0, x, h0, h => by
  injection h with h;subst h;unfold treeEL at h0;by_cases hc : treeE c = 0
  ·exact hc
  ·rw [if_pos hc] at h0; exact absurd h0 hc
 | c :: r, k + 1, x, h0, h => by
  rw [List.getElem?_cons_succ] at h;unfold treeEL at h0;by_cases hc : treeE c = 0
  ·rw [if_neg (by simp [hc])] at h0; exact treeEL_kid r k x h0 h
  ·rw [if_pos hc] at h0; exact absurd h0 hc
end Pr
namespace Go.Proofs.YtchkiegehejfmaaGreatDoor
open Go.RowKit Go.Lib
abbrev okP (g : Nat) (q : Option Nat) (b : Nat) : Prop := b ≠ g ∧ some b ≠ q
theorem CnV.prk {w w' : World} {g : Nat} {q q' : Option Nat} {V : Array Value} {c : Pr.Cn} (h : CnV w (okP g q) V c) (hk : PrK w g q w' q') : CnV w' (okP g q') V c := h.keep fun b hb hl => ⟨⟨hb.1, hk.apart hl hb.2⟩, hk.block b hl hb.1 hb.2⟩
theorem CnRow.prk {w w' : World} {g : Nat} {q q' : Option Nat} {A : Option Addr} {ks : List Pr.Cn} (h : CnRow w (okP g q) A ks) (hk : PrK w g q w' q') : CnRow w' (okP g q') A ks := h.keep fun b hb hl => ⟨⟨hb.1, hk.apart hl hb.2⟩, hk.block b hl hb.1 hb.2⟩
theorem CS (k : Int) (b : Bool) (hb : (k == 2 || k == 3) = b) (w : World) : Calls Tryz.prog 69 #[.int .i64 k] w fun e w' => e = .returned (.bool b) ∧ w = w' := by
 subst hb;by_cases h2 : k = 2
 ·subst h2;go_enter Tryz.func69, Tryz.ntmps69;go_wp2_with fail;go_ret;exact ⟨rfl, rfl⟩
 ·have e2 : (k == 2) = false := by rw [beq_eq_false_iff_ne]; exact h2
  by_cases h3 : k = 3
  ·subst h3;go_enter Tryz.func69, Tryz.ntmps69;go_wp2_with fail;go_ret;exact ⟨rfl, rfl⟩
  ·have e3 : (k == 3) = false := by rw [beq_eq_false_iff_ne]; exact h3
   rw [e2, e3];go_enter Tryz.func69, Tryz.ntmps69;go_wp2_with fail;go_ret;exact ⟨rfl, rfl⟩
theorem CQ (k : Int) (b : Bool) (hb : (k == 3) = b) (w : World) : Calls Tryz.prog 71 #[.int .i64 k] w fun e w' => e = .returned (.bool b) ∧ w = w' := by
 go_enter Tryz.func71, Tryz.ntmps71;go_wp2_with fail;go_ret;exact ⟨rfl, rfl⟩
def BY (m : Nat) : Prop := ∀ (g : Nat) (q : Option Nat) (out : List UInt8) (c : Pr.Cn) (V : Array Value) (w : World), Pr.nodes c ≤ m → PrS w g q out → CnV w (okP g q) V c → Pr.treeE c = 0 → out.length + (Pr.textC c).length ≤ 1000000 →
 Calls Tryz.prog 35 #[.pointer (some ⟨g, 0, none⟩), .agg V] w fun e w' => e = .returned (.tuple #[]) ∧ ∃ q', PrS w' g q' (out ++ Pr.textC c) ∧ PrK w g q w' q'
theorem AM {w : World} {b : Nat} {T : TypeId} {X : Array Value} {v : Value} {i : Nat} (h : Blk w b T X) (hi : X[i]? = some v) : w.cell? ⟨b, i, none⟩ = some v := (h.cell i).trans hi
theorem GK (m : Nat) (hIH : BY m) (g : Nat) (q : Option Nat) (out : List UInt8) (o : Int) (Wd : ByteArray) (ks : List Pr.Cn) (A : Option Addr) (cap : Nat) (w : World) (hm : Pr.nodesL ks ≤ m) (hm6 : m ≤ 1000000) (h : PrS w g q out) (hrow : CnRow w (okP g q) A ks)
  (hw : Wd.data.toList = Pr.sepW o) (hws : Wd.size ≤ 10) (hj : ∀ k, Pr.joint o k = (k == 2 || k == 3)) (ht : Pr.treeEL ks = 0) (hlen : out.length + (Pr.textK o true ks).length ≤ 1000000) :
  Calls Tryz.prog 70 #[.pointer (some ⟨g, 0, none⟩), .slice A ks.length cap, .string Wd, .func (.func 69) #[] #[]] w fun e w' => e = .returned (.tuple #[]) ∧ ∃ q', PrS w' g q' (out ++ Pr.textK o true ks) ∧ PrK w g q w' q' := by
 have IH := hid hIH;have hkl := Pr.kids_nodes ks;have HJ := hid hj;have HTE := hid ht;have HR1 := hid hrow;have HP1 := hid h;obtain ⟨SP, hSP⟩ : ∃ SP, ((⟨#[32]⟩ : ByteArray) ++ Wd) ++ (⟨#[32]⟩ : ByteArray) = SP := ⟨_, rfl⟩;have HSW : Hid (SP.data.toList = 32 :: (Pr.sepW o ++ [32])) := hid (by rw [← hSP, Au, Au, hw]; simp);have hz1 : (⟨#[32]⟩ : ByteArray).size = 1 := rfl;have HZS : Hid (SP.size ≤ 10000000000) := hid (by rw [← hSP, ByteArray.size_append, ByteArray.size_append, hz1]; omega);have hsps : SP.data.toList.length ≤ 12 := by rw [← hSP, ← Am, ByteArray.size_append, ByteArray.size_append, hz1]; omega
 have hp1 : ¬ 9223372036854775807 < 1 + Wd.size := by omega
 have hp2 : ¬ 9223372036854775807 < 1 + Wd.size + 1 := by omega
 clear hIH h hrow hj ht hw;go_enter Tryz.func70, Tryz.ntmps70;go_wp2_with fail
 go_loopw [12] (fun ix wr => ∃ (k : Nat) (q1 : Option Nat), k ≤ ks.length ∧ ix = .int .i64 (k : Int) ∧ PrS wr g q1 (out ++ Pr.textK o true (ks.take k)) ∧ PrK w g q wr q1) (fun ix _ => ks.length - (RowKit.intOf ix).toNat)
 case atStart => exact ⟨0, q, Nat.zero_le _, rfl, by simpa [Pr.textK] using HP1.out, PrK.refl _ _ _⟩
 case round =>
  obtain ⟨k, q1, hk, rfl, hps, hpk⟩ := hrel;have HP0 := hid hps;have HKR := hid hpk;clear hps hpk;by_cases hlt : k < ks.length
  ·obtain ⟨x, hx⟩ : ∃ x, ks[k]? = some x := ⟨_, List.getElem?_eq_getElem hlt⟩;obtain ⟨b, off, cs, rfl, hok, hr, hcl, hcv⟩ := (HR1.out.prk HKR.out) k x hx;have HTX := hid (Pr.treeEL_kid ks k x HTE.out hx);have hnk := Pr.nodes_kid hx;have hstp := Pr.textK_step o ks k true x hx;have hle := Pr.textK_le o ks (k + 1) true;have HCV := hid hcv;have hone := hcv.one;obtain ⟨A2, cap2, hcs, -⟩ := hcv.open;have HX0 : Hid (cs.toArray[0]? = some (.int .i64 x.op)) := hid (by rw [hcs]; rfl);have HL2 : Hid ((Tryz.prog.info? 36).map (·.size) = some cs.length) := hid (by rw [Aa, hcl]);have HL3 : Hid ((Tryz.prog.info? 36).map (·.size) = some cs.toArray.size) := hid (by rw [Aa, List.size_toArray, hcl]);have HSZ : Hid (zCn.size = cs.toArray.size) := hid (by show 4 = cs.toArray.size; rw [List.size_toArray, hcl]);have HGW : Hid (g < wr.heap.size) := hid HP0.out.lt;have HQW : Hid (some wr.heap.size ≠ q1) := hid (fun e => by have := (HP0.out.own _ e.symm).2; omega);obtain ⟨oo, hoo⟩ : ∃ oo, out ++ Pr.textK o true (ks.take k) = oo := ⟨_, rfl⟩;have HP := HP0;rw [hoo] at HP;have HSTP : Hid (out ++ Pr.textK o true (ks.take (k + 1)) = oo ++ ((if true = true ∧ k = 0 then [] else 32 :: (Pr.sepW o ++ [32])) ++ Pr.wrapK o x)) := hid (by rw [hstp, ← hoo, List.append_assoc]);have HOO : Hid (oo = oo) := hid rfl;have hlo : oo.length ≤ 1000000 := by rw [← hoo, List.length_append]; have := Pr.textK_le o ks k true; omega
   have HZO : Hid (oo.length ≤ 10000000000) := hid (by omega);have hall : (out ++ Pr.textK o true (ks.take (k + 1))).length ≤ 1000000 := by rw [List.length_append]; omega
   simp only [List.length_append] at hall;clear hx hcv hcs HP0 hstp hoo;by_cases hk0 : k = 0
   ·subst hk0;have hr0 : wr.rangeAt b off cs := by simpa using hr
    clear hr;rcases Bool.eq_false_or_eq_true ((x.op == 2 || x.op == 3)) with hjx | hjx
    ·have HST : Hid (out ++ Pr.textK o true (ks.take (0 + 1)) = ((oo ++ [40]) ++ Pr.textC x) ++ [41]) := hid (by
      rw [HSTP.out, if_pos ⟨rfl, rfl⟩];unfold Pr.wrapK;rw [HJ.out x.op, hjx]
      simp)
     have hlst := congrArg List.length HST.out;simp only [List.length_append, List.length_cons, List.length_nil] at hlst;have HZQ : Hid ((oo).length ≤ 10000000000) := hid (by (try simp only [List.length_append]); omega);have HZT : Hid ((oo ++ [40]).length + (Pr.textC x).length ≤ 1000000) := hid (by simp only [List.length_append, List.length_cons, List.length_nil]; omega);have HZU : Hid (((oo ++ [40]) ++ Pr.textC x).length ≤ 10000000000) := hid (by simp only [List.length_append, List.length_cons, List.length_nil]; omega);clear hlst
     go_wp2_with (first
      | ((with_reducible refine wpList_load_mid rfl 36 _ rfl b off ?_ cs _ hr0 Tryz.underlying36 ?_ HL2.out ?_); rfl; rfl)
      | ((with_reducible refine Ah rfl 36 _ _ rfl wr.heap.size cs.toArray ?_ ?_ 36 _ (Blk.new wr 36 _) HL3.out ?_ hone ?_); rfl; rfl; exact HSZ.out; intro w2 hk2 hs2 hbl2; have HB2 : Hid (Below wr.heap.size wr w2) := hid (((Below.refl _ wr).alloc (Nat.le_refl _) (.cells zCn 36)).trans (hbl2 wr.heap.size (Nat.le_refl _))); have HP2 := hid (HP.out.bel HB2.out); have HK2 := hid (HKR.out.tr (PrK.of_bel HB2.out)); have HC2 := hid (HCV.out.bel HB2.out); have HV2 := hid hk2; have hc0 := AM HV2.out HX0.out; clear hk2 hs2 hbl2))
     go_wp2_with (first
      | (go_at_call 69; refine (CS x.op true hjx w2).mono ?_; rintro e wj ⟨rfl, rfl⟩)
      | (go_at_call 34; refine (Az g q1 oo _ w2 HP2.out ⟨by decide, HZQ.out⟩).mono ?_; rintro e w4 ⟨rfl, q4, hp4, hk4⟩; have HP4 := hid hp4; have HK4 := hid (HK2.out.tr hk4); have HC4 := hid (HC2.out.prk hk4); have HV4 := hid (HV2.out.prk hk4 (by have := HGW.out; omega) HQW.out); have hv4 := HV4.out; clear hp4 hk4)
      | (refine wpList_load_row rfl 36 _ rfl wr.heap.size rfl 36 cs.toArray (0, 0) _ hv4 Tryz.underlying36 rfl HL3.out ?_))
     refine (IH.out g q4 (oo ++ [40]) x cs.toArray w4 (by omega) HP4.out HC4.out HTX.out HZT.out).mono ?_;rintro e w5 ⟨rfl, q5, hp5, hk5⟩;have HP5 := hid hp5;have HK5 := hid (HK4.out.tr hk5);clear hp5 hk5 hv4;go_wp2_with (go_at_call 34; refine (Az g q5 ((oo ++ [40]) ++ Pr.textC x) _ w5 HP5.out ⟨by decide, HZU.out⟩).mono ?_; rintro e w6 ⟨rfl, q6, hp6, hk6⟩; have HP6 := hid hp6; have HK6 := hid (HK5.out.tr hk6); clear hp6 hk6)
     go_roundw
     case rel => exact ⟨0 + 1, q6, by omega, by go_num, by rw [HST.out]; exact HP6.out, HK6.out⟩
     case measure => simp [RowKit.intOf]; omega
    ·have HST : Hid (out ++ Pr.textK o true (ks.take (0 + 1)) = oo ++ Pr.textC x) := hid (by
      rw [HSTP.out, if_pos ⟨rfl, rfl⟩];unfold Pr.wrapK;rw [HJ.out x.op, hjx]
      simp)
     have hlst := congrArg List.length HST.out;simp only [List.length_append, List.length_cons, List.length_nil] at hlst;have HZT : Hid ((oo).length + (Pr.textC x).length ≤ 1000000) := hid (by (try simp only [List.length_append]); omega);clear hlst
     go_wp2_with (first
      | ((with_reducible refine wpList_load_mid rfl 36 _ rfl b off ?_ cs _ hr0 Tryz.underlying36 ?_ HL2.out ?_); rfl; rfl)
      | ((with_reducible refine Ah rfl 36 _ _ rfl wr.heap.size cs.toArray ?_ ?_ 36 _ (Blk.new wr 36 _) HL3.out ?_ hone ?_); rfl; rfl; exact HSZ.out; intro w2 hk2 hs2 hbl2; have HB2 : Hid (Below wr.heap.size wr w2) := hid (((Below.refl _ wr).alloc (Nat.le_refl _) (.cells zCn 36)).trans (hbl2 wr.heap.size (Nat.le_refl _))); have HP2 := hid (HP.out.bel HB2.out); have HK2 := hid (HKR.out.tr (PrK.of_bel HB2.out)); have HC2 := hid (HCV.out.bel HB2.out); have HV2 := hid hk2; have hc0 := AM HV2.out HX0.out; clear hk2 hs2 hbl2))
     have hv2 := HV2.out
     go_wp2_with (first
      | (go_at_call 69; refine (CS x.op false hjx w2).mono ?_; rintro e wj ⟨rfl, rfl⟩)
      | (refine wpList_load_row rfl 36 _ rfl wr.heap.size rfl 36 cs.toArray (0, 0) _ hv2 Tryz.underlying36 rfl HL3.out ?_))
     refine (IH.out g q1 oo x cs.toArray w2 (by omega) HP2.out HC2.out HTX.out HZT.out).mono ?_;rintro e w5 ⟨rfl, q5, hp5, hk5⟩;have HP5 := hid hp5;have HK5 := hid (HK2.out.tr hk5);clear hp5 hk5 hv2;go_wp2_with fail
     go_roundw
     case rel => exact ⟨0 + 1, q5, by omega, by go_num, by rw [HST.out]; exact HP5.out, HK5.out⟩
     case measure => simp [RowKit.intOf]; omega
   ·have hkz2 : 0 < (k : Int) := by omega
    have hkz3 : 0 < k := by omega
    rcases Bool.eq_false_or_eq_true ((x.op == 2 || x.op == 3)) with hjx | hjx
    ·have HST : Hid (out ++ Pr.textK o true (ks.take (k + 1)) = (((oo ++ SP.data.toList) ++ [40]) ++ Pr.textC x) ++ [41]) := hid (by
      rw [HSTP.out, if_neg (by omega)];unfold Pr.wrapK;rw [HJ.out x.op, hjx, ← HSW.out]
      simp)
     have hlst := congrArg List.length HST.out;simp only [List.length_append, List.length_cons, List.length_nil] at hlst;have HZQ : Hid (((oo ++ SP.data.toList)).length ≤ 10000000000) := hid (by (try simp only [List.length_append]); omega);have HZT : Hid (((oo ++ SP.data.toList) ++ [40]).length + (Pr.textC x).length ≤ 1000000) := hid (by simp only [List.length_append, List.length_cons, List.length_nil]; omega);have HZU : Hid ((((oo ++ SP.data.toList) ++ [40]) ++ Pr.textC x).length ≤ 10000000000) := hid (by simp only [List.length_append, List.length_cons, List.length_nil]; omega);clear hlst
     go_wp2_with (first
      | ((with_reducible refine wpList_load_mid rfl 36 _ rfl b (off + k * 4) ?_ cs _ hr Tryz.underlying36 ?_ HL2.out ?_); rfl; rfl)
      | ((with_reducible refine Ah rfl 36 _ _ rfl wr.heap.size cs.toArray ?_ ?_ 36 _ (Blk.new wr 36 _) HL3.out ?_ hone ?_); rfl; rfl; exact HSZ.out; intro w2 hk2 hs2 hbl2; have HB2 : Hid (Below wr.heap.size wr w2) := hid (((Below.refl _ wr).alloc (Nat.le_refl _) (.cells zCn 36)).trans (hbl2 wr.heap.size (Nat.le_refl _))); have HP2 := hid (HP.out.bel HB2.out); have HK2 := hid (HKR.out.tr (PrK.of_bel HB2.out)); have HC2 := hid (HCV.out.bel HB2.out); have HV2 := hid hk2; have hc0 := AM HV2.out HX0.out; clear hk2 hs2 hbl2)
      | (go_at_call 34; refine (Az g q1 oo _ w2 HP2.out ⟨HZS.out, HZO.out⟩).mono ?_; rintro e w3 ⟨rfl, q3, hp3, hk3⟩; have HP3 := hid hp3; have HK3 := hid (HK2.out.tr hk3); have HC3 := hid (HC2.out.prk hk3); have HV3 := hid (HV2.out.prk hk3 (by have := HGW.out; omega) HQW.out); have HQ3 : Hid (some wr.heap.size ≠ q3) := hid (hk3.apart HV2.out.lt HQW.out); have hc3 := AM HV3.out HX0.out; clear hp3 hk3))
     go_wp2_with (first
      | (go_at_call 69; refine (CS x.op true hjx w3).mono ?_; rintro e wj ⟨rfl, rfl⟩)
      | (go_at_call 34; refine (Az g q3 (oo ++ SP.data.toList) _ w3 HP3.out ⟨by decide, HZQ.out⟩).mono ?_; rintro e w4 ⟨rfl, q4, hp4, hk4⟩; have HP4 := hid hp4; have HK4 := hid (HK3.out.tr hk4); have HC4 := hid (HC3.out.prk hk4); have HV4 := hid (HV3.out.prk hk4 (by have := HGW.out; omega) HQ3.out); have hv4 := HV4.out; clear hp4 hk4)
      | (refine wpList_load_row rfl 36 _ rfl wr.heap.size rfl 36 cs.toArray (0, 0) _ hv4 Tryz.underlying36 rfl HL3.out ?_))
     refine (IH.out g q4 ((oo ++ SP.data.toList) ++ [40]) x cs.toArray w4 (by omega) HP4.out HC4.out HTX.out HZT.out).mono ?_;rintro e w5 ⟨rfl, q5, hp5, hk5⟩;have HP5 := hid hp5;have HK5 := hid (HK4.out.tr hk5);clear hp5 hk5 hv4;go_wp2_with (go_at_call 34; refine (Az g q5 (((oo ++ SP.data.toList) ++ [40]) ++ Pr.textC x) _ w5 HP5.out ⟨by decide, HZU.out⟩).mono ?_; rintro e w6 ⟨rfl, q6, hp6, hk6⟩; have HP6 := hid hp6; have HK6 := hid (HK5.out.tr hk6); clear hp6 hk6)
     go_roundw
     case rel => exact ⟨k + 1, q6, by omega, by go_num, by rw [HST.out]; exact HP6.out, HK6.out⟩
     case measure => simp [RowKit.intOf]; omega
    ·have HST : Hid (out ++ Pr.textK o true (ks.take (k + 1)) = (oo ++ SP.data.toList) ++ Pr.textC x) := hid (by
      rw [HSTP.out, if_neg (by omega)];unfold Pr.wrapK;rw [HJ.out x.op, hjx, ← HSW.out]
      simp)
     have hlst := congrArg List.length HST.out;simp only [List.length_append, List.length_cons, List.length_nil] at hlst;have HZT : Hid (((oo ++ SP.data.toList)).length + (Pr.textC x).length ≤ 1000000) := hid (by (try simp only [List.length_append]); omega);clear hlst
     go_wp2_with (first
      | ((with_reducible refine wpList_load_mid rfl 36 _ rfl b (off + k * 4) ?_ cs _ hr Tryz.underlying36 ?_ HL2.out ?_); rfl; rfl)
      | ((with_reducible refine Ah rfl 36 _ _ rfl wr.heap.size cs.toArray ?_ ?_ 36 _ (Blk.new wr 36 _) HL3.out ?_ hone ?_); rfl; rfl; exact HSZ.out; intro w2 hk2 hs2 hbl2; have HB2 : Hid (Below wr.heap.size wr w2) := hid (((Below.refl _ wr).alloc (Nat.le_refl _) (.cells zCn 36)).trans (hbl2 wr.heap.size (Nat.le_refl _))); have HP2 := hid (HP.out.bel HB2.out); have HK2 := hid (HKR.out.tr (PrK.of_bel HB2.out)); have HC2 := hid (HCV.out.bel HB2.out); have HV2 := hid hk2; have hc0 := AM HV2.out HX0.out; clear hk2 hs2 hbl2)
      | (go_at_call 34; refine (Az g q1 oo _ w2 HP2.out ⟨HZS.out, HZO.out⟩).mono ?_; rintro e w3 ⟨rfl, q3, hp3, hk3⟩; have HP3 := hid hp3; have HK3 := hid (HK2.out.tr hk3); have HC3 := hid (HC2.out.prk hk3); have HV3 := hid (HV2.out.prk hk3 (by have := HGW.out; omega) HQW.out); have HQ3 : Hid (some wr.heap.size ≠ q3) := hid (hk3.apart HV2.out.lt HQW.out); have hc3 := AM HV3.out HX0.out; clear hp3 hk3))
     have hv3 := HV3.out
     go_wp2_with (first
      | (go_at_call 69; refine (CS x.op false hjx w3).mono ?_; rintro e wj ⟨rfl, rfl⟩)
      | (refine wpList_load_row rfl 36 _ rfl wr.heap.size rfl 36 cs.toArray (0, 0) _ hv3 Tryz.underlying36 rfl HL3.out ?_))
     refine (IH.out g q3 (oo ++ SP.data.toList) x cs.toArray w3 (by omega) HP3.out HC3.out HTX.out HZT.out).mono ?_;rintro e w5 ⟨rfl, q5, hp5, hk5⟩;have HP5 := hid hp5;have HK5 := hid (HK3.out.tr hk5);clear hp5 hk5 hv3;go_wp2_with fail
     go_roundw
     case rel => exact ⟨k + 1, q5, by omega, by go_num, by rw [HST.out]; exact HP5.out, HK5.out⟩
     case measure => simp [RowKit.intOf]; omega
  ·obtain rfl : k = ks.length := by omega
   have htk : ks.take ks.length = ks := List.take_length;have HF := HP0;rw [htk] at HF;clear HP0 htk;go_wp2_with fail
   go_end0
   exact ⟨rfl, q1, HF.out, HKR.out⟩
end Go.Proofs.YtchkiegehejfmaaGreatDoor
