/- The texts Zc, Zd of this proof, one behind the other. -/
import Derived.Deep.CutRange
import Derived.Test.YtchkiegehejfmaaGreatDoorMsbi
import Derived.Test.YtchkiegehejfmaaGreatDoorMsam
import Derived.Test.YtchkiegehejfmaaGreatDoorMsas
import Derived.Test.YtchkiegehejfmaaGreatDoorMsaf
import Derived.Test.YtchkiegehejfmaaGreatDoorMsan
set_option linter.unusedSimpArgs false
set_option maxHeartbeats 16000000
set_option maxRecDepth 100000
set_option linter.unusedVariables false
namespace Go.Proofs.YtchkiegehejfmaaGreatDoor
open Go.RowKit Go.Lib
theorem Blk.prk {w w' : World} {g b : Nat} {q q' : Option Nat} {T : TypeId} {X : Array Value} (h : Blk w b T X) (hk : PrK w g q w' q') (hb : b ≠ g) (hq : some b ≠ q) : Blk w' b T X := (hk.block b h.lt hb hq).trans h
theorem Az (g : Nat) (q : Option Nat) (out : List UInt8) (X : ByteArray) (w : World) (h : PrS w g q out) (hlen : X.size ≤ 10000000000 ∧ out.length ≤ 10000000000) :
  Calls Tryz.prog 34 #[.pointer (some ⟨g, 0, none⟩), .string X] w fun e w' => e = .returned (.tuple #[.int .i64 X.size, .nilIface]) ∧ ∃ q', PrS w' g q' (out ++ X.data.toList) ∧ PrK w g q w' q' := by
 have hx : bstr X.data.toList = X := rfl;have hs : X.data.toList.length = X.size := (Am X).symm;have := GQ g q out X.data.toList w h (by rw [hs]; omega);rw [hx, hs] at this;exact this
theorem C2 (n : Int) (hn : Ar.inInt n) : (Ar.itoa n).length ≤ 20 := by
 obtain ⟨h1, h2⟩ := hn;have h := BS 18 n.natAbs (by omega);unfold Ar.itoa;split
 ·rw [List.length_cons]; omega
 ·omega
theorem ER (o : Int) : (Pr.simpleW o).length ≤ 7 := by
 unfold Pr.simpleW
 repeat' split
 all_goals decide
theorem Bd (o : Int) : (Pr.fieldW o).length ≤ 7 := by
 unfold Pr.fieldW
 repeat' split
 all_goals decide
theorem Cb (s : List UInt8) : (Pr.quoteT s).length ≤ 2 * s.length + 2 := by
 have := D4 s;unfold Pr.quoteT;rw [List.length_cons, List.length_append];simp only [List.length_cons, List.length_nil];omega
theorem F8 (k : Nat) (hk : k < 14) : ∃ W : List UInt8, Pr.kindL[k]? = some W ∧ Pr.kindL.getD k [] = W ∧ W.length ≤ 20 := by
 have h : k < Pr.kindL.length := hk;refine ⟨Pr.kindL[k], List.getElem?_eq_getElem h, by rw [List.getD_eq_getElem?_getD, List.getElem?_eq_getElem h]; rfl, ?_⟩;have : ∀ x ∈ Pr.kindL, x.length ≤ 20 := by decide
 exact this _ (List.getElem_mem h)
theorem Au (a b : ByteArray) : (a ++ b).data.toList = a.data.toList ++ b.data.toList := by simp
theorem Ir (g : Nat) (q : Option Nat) (out : List UInt8) (o : Int) (T : ByteArray) (n : Int) (A : Option Addr) (L cap : Nat) (w : World) (h : PrS w g q out) (hlen : out.length ≤ 1000000000) (ho : 1 ≤ o ∧ o ≤ 17) (hno : o < 2 ∨ 12 < o) :
  Calls Tryz.prog 35 #[.pointer (some ⟨g, 0, none⟩), .agg #[.int .i64 o, .string T, .int .i64 n, .slice A L cap]] w fun e w' => e = .returned (.tuple #[]) ∧ ∃ q', PrS w' g q' (out ++ Pr.leafT (o) T.data.toList (n)) ∧ PrK w g q w' q' := by
 have h2 : (o == 2) = false := by rw [beq_eq_false_iff_ne]; omega
 have h3 : (o == 3) = false := by rw [beq_eq_false_iff_ne]; omega
 have h4 : (o == 4) = false := by rw [beq_eq_false_iff_ne]; omega
 have h5 : (o == 5) = false := by rw [beq_eq_false_iff_ne]; omega
 have h6 : (o == 6) = false := by rw [beq_eq_false_iff_ne]; omega
 have h7 : (o == 7) = false := by rw [beq_eq_false_iff_ne]; omega
 have h8 : (o == 8) = false := by rw [beq_eq_false_iff_ne]; omega
 have h9 : (o == 9) = false := by rw [beq_eq_false_iff_ne]; omega
 have h10 : (o == 10) = false := by rw [beq_eq_false_iff_ne]; omega
 have h11 : (o == 11) = false := by rw [beq_eq_false_iff_ne]; omega
 have h12 : (o == 12) = false := by rw [beq_eq_false_iff_ne]; omega
 have hE : Pr.leafT o T.data.toList n = (bstr (Pr.simpleW o)).data.toList := by
  unfold Pr.leafT;rw [if_neg (by omega), if_neg (by omega), if_neg (by omega), if_neg (by omega)];rfl
 have HE := hid hE;have HX : Hid ((bstr (Pr.simpleW o)).size ≤ 1000) := hid (by rw [Ai]; have := ER o; omega);clear hE;have hb1 : Below w.heap.size w (w.alloc (.cells #[.int .i64 o, .string T, .int .i64 n, .slice A L cap] 36)).drew := ((Below.refl w.heap.size w).alloc (Nat.le_refl _) _).drew;have hv0 := Blk.new w 36 #[.int .i64 o, .string T, .int .i64 n, .slice A L cap];have hv1 : Blk (w.alloc (.cells #[.int .i64 o, .string T, .int .i64 n, .slice A L cap] 36)).drew w.heap.size 36 #[.int .i64 o, .string T, .int .i64 n, .slice A L cap] := hv0.drew;have HC0 : Hid ((w.alloc (.cells #[.int .i64 o, .string T, .int .i64 n, .slice A L cap] 36)).drew.cell? ⟨w.heap.size, 0, none⟩ = some (.int .i64 o) ∧ (w.alloc (.cells #[.int .i64 o, .string T, .int .i64 n, .slice A L cap] 36)).drew.cell? ⟨w.heap.size, 1, none⟩ = some (.string T) ∧ (w.alloc (.cells #[.int .i64 o, .string T, .int .i64 n, .slice A L cap] 36)).drew.cell? ⟨w.heap.size, 2, none⟩ = some (.int .i64 n)) := hid ⟨hv1.cell 0, hv1.cell 1, hv1.cell 2⟩;have HGL := hid h.lt;have HQN : Hid (some w.heap.size ≠ q) := hid (fun e => by have := (h.own _ e.symm).2; omega);obtain ⟨w1, hw1⟩ : ∃ w1, (w.alloc (.cells #[.int .i64 o, .string T, .int .i64 n, .slice A L cap] 36)).drew = w1 := ⟨_, rfl⟩;rw [hw1] at hb1 hv1;have HP1 := hid (h.bel hb1);have HK1 : Hid (PrK w g q w1 q) := hid (PrK.of_bel hb1);have HV1 := hid hv1;have HZ1 : Hid (w.heap.size < w1.heap.size) := hid hv1.lt;have HW1 := hid hw1;clear h hb1 hv0 hv1 hw1;go_enter Tryz.func35, Tryz.ntmps35;go_wp2_with fail;refine wp_region_noPanic ?_;refine wp_region_held_drew (S := fun W => W.cell? ⟨w.heap.size, 0, none⟩ = some (.int .i64 o) ∧ W.cell? ⟨w.heap.size, 1, none⟩ = some (.string T) ∧ W.cell? ⟨w.heap.size, 2, none⟩ = some (.int .i64 n)) (by kernel_rfl) HC0.out (fun hHeld => ?_);rw [HW1.out] at hHeld ⊢;refine wpAnyH_take (i := 0) (oi := _) (v := ?_) rfl (by kernel_rfl) (by kernel_rfl) (by kernel_rfl) (fun _ _ _ h => h) (Or.inl ⟨by rfl, ?_⟩) hHeld ?_;rotate_left
 ·intro wq hSw;obtain ⟨hSw0, hSw1, hSw2⟩ := hSw;go_simp
  (try with_reducible rfl)
 (try simp only [Act.put, pk1, pk2, pk3, pk4, pk5, pk6])
 refine wpAnyH_take (i := 1) (oi := _) (v := ?_) rfl (by kernel_rfl) (by kernel_rfl) (by kernel_rfl) (fun _ _ _ h => h) (Or.inl ⟨by rfl, ?_⟩) hHeld ?_;rotate_left
 ·intro wq hSw;obtain ⟨hSw0, hSw1, hSw2⟩ := hSw;go_simp
  (try with_reducible rfl)
 (try simp only [Act.put, pk1, pk2, pk3, pk4, pk5, pk6])
 refine wpAnyH_take (i := 2) (oi := _) (v := ?_) rfl (by kernel_rfl) (by kernel_rfl) (by kernel_rfl) (fun _ _ _ h => h) (Or.inl ⟨by rfl, ?_⟩) hHeld ?_;rotate_left
 ·intro wq hSw;obtain ⟨hSw0, hSw1, hSw2⟩ := hSw;go_simp
  (try with_reducible rfl)
 (try simp only [Act.put, pk1, pk2, pk3, pk4, pk5, pk6])
 refine wpAnyH_take (i := 3) (oi := _) (v := ?_) rfl (by kernel_rfl) (by kernel_rfl) (by kernel_rfl) (fun _ _ _ h => h) (Or.inl ⟨by rfl, ?_⟩) hHeld ?_;rotate_left
 ·intro wq hSw;obtain ⟨hSw0, hSw1, hSw2⟩ := hSw;go_simp
  (try with_reducible rfl)
 (try simp only [Act.put, pk1, pk2, pk3, pk4, pk5, pk6])
 refine wpAnyH_take (i := 4) (oi := _) (v := ?_) rfl (by kernel_rfl) (by kernel_rfl) (by kernel_rfl) (fun _ _ _ h => h) (Or.inl ⟨by rfl, ?_⟩) hHeld ?_;rotate_left
 ·intro wq hSw;obtain ⟨hSw0, hSw1, hSw2⟩ := hSw;go_simp
  (try with_reducible rfl)
 (try simp only [Act.put, pk1, pk2, pk3, pk4, pk5, pk6])
 refine wpAnyH_ready (rs := [5]) (by kernel_rfl) (by simp) ?_;refine AllReadyH.cons (o := _) rfl (fun K hK => ?_) AllReadyH.nil;go_simp
 go_at_call 76
 refine (CP o ho.1 ho.2 w1).mono ?_;rintro e wq ⟨rfl, rfl⟩;refine hK.out _ _ hHeld (fun hHeld2 => ?_);clear hK K hHeld;have hHeld := hHeld2;clear hHeld2
 (try simp only [Act.put, pk1, pk2, pk3, pk4, pk5, pk6])
 refine wpAnyH_ready (rs := [6]) (by kernel_rfl) (by simp) ?_;refine AllReadyH.cons (o := _) rfl (fun K hK => ?_) AllReadyH.nil;go_simp
 go_at_call 34
 refine (Az g q out _ w1 HP1.out ⟨by have := HX.out; omega, by omega⟩).mono ?_;rintro e w9 ⟨rfl, q9, hp9, hk9⟩;have HV9 := hid (HV1.out.prk hk9 (by have := HGL.out; omega) HQN.out);have HP9 := hid hp9;have HK9 := hid (HK1.out.tr hk9);clear hp9 hk9;refine hK.out _ _ ⟨HV9.out.cell 0, HV9.out.cell 1, HV9.out.cell 2⟩ (fun _ => ?_);clear hK K hHeld;refine wpAnyH_done (by kernel_rfl) ?_ _;refine NoPanic.normal ?_;go_wp2_with fail
 go_end0
 exact ⟨rfl, q9, by rw [HE.out]; exact HP9.out, HK9.out⟩
theorem Ip (g : Nat) (q : Option Nat) (out : List UInt8) (T : ByteArray) (n : Int) (A : Option Addr) (L cap : Nat) (w : World) (h : PrS w g q out) (hlen : out.length ≤ 1000000000) (hT : T.size ≤ 1000000) :
  Calls Tryz.prog 35 #[.pointer (some ⟨g, 0, none⟩), .agg #[.int .i64 9, .string T, .int .i64 n, .slice A L cap]] w fun e w' => e = .returned (.tuple #[]) ∧ ∃ q', PrS w' g q' (out ++ Pr.leafT (9) T.data.toList (n)) ∧ PrK w g q w' q' := by
 have HE : Hid (Pr.leafT 9 T.data.toList n = ((⟨#[119, 111, 114, 100, 32]⟩ : ByteArray) ++ T).data.toList) := hid (by rw [Au]; rfl);have HZX : Hid (((⟨#[119, 111, 114, 100, 32]⟩ : ByteArray) ++ T).size = 5 + T.size) := hid (by rw [ByteArray.size_append]; rfl);have hz5 : (⟨#[119, 111, 114, 100, 32]⟩ : ByteArray).size = 5 := rfl;have hp1 : ¬ 9223372036854775807 < 5 + T.size := by omega
 have hb1 : Below w.heap.size w (w.alloc (.cells #[.int .i64 9, .string T, .int .i64 n, .slice A L cap] 36)).drew := ((Below.refl w.heap.size w).alloc (Nat.le_refl _) _).drew;have hv0 := Blk.new w 36 #[.int .i64 9, .string T, .int .i64 n, .slice A L cap];have hv1 : Blk (w.alloc (.cells #[.int .i64 9, .string T, .int .i64 n, .slice A L cap] 36)).drew w.heap.size 36 #[.int .i64 9, .string T, .int .i64 n, .slice A L cap] := hv0.drew;have HC0 : Hid ((w.alloc (.cells #[.int .i64 9, .string T, .int .i64 n, .slice A L cap] 36)).drew.cell? ⟨w.heap.size, 0, none⟩ = some (.int .i64 9) ∧ (w.alloc (.cells #[.int .i64 9, .string T, .int .i64 n, .slice A L cap] 36)).drew.cell? ⟨w.heap.size, 1, none⟩ = some (.string T) ∧ (w.alloc (.cells #[.int .i64 9, .string T, .int .i64 n, .slice A L cap] 36)).drew.cell? ⟨w.heap.size, 2, none⟩ = some (.int .i64 n)) := hid ⟨hv1.cell 0, hv1.cell 1, hv1.cell 2⟩;have HGL := hid h.lt;have HQN : Hid (some w.heap.size ≠ q) := hid (fun e => by have := (h.own _ e.symm).2; omega);obtain ⟨w1, hw1⟩ : ∃ w1, (w.alloc (.cells #[.int .i64 9, .string T, .int .i64 n, .slice A L cap] 36)).drew = w1 := ⟨_, rfl⟩;rw [hw1] at hb1 hv1;have HP1 := hid (h.bel hb1);have HK1 : Hid (PrK w g q w1 q) := hid (PrK.of_bel hb1);have HV1 := hid hv1;have HZ1 : Hid (w.heap.size < w1.heap.size) := hid hv1.lt;have HW1 := hid hw1;clear h hb1 hv0 hv1 hw1;go_enter Tryz.func35, Tryz.ntmps35;go_wp2_with fail;refine wp_region_noPanic ?_;refine wp_region_held_drew (S := fun W => W.cell? ⟨w.heap.size, 0, none⟩ = some (.int .i64 9) ∧ W.cell? ⟨w.heap.size, 1, none⟩ = some (.string T) ∧ W.cell? ⟨w.heap.size, 2, none⟩ = some (.int .i64 n)) (by kernel_rfl) HC0.out (fun hHeld => ?_);rw [HW1.out] at hHeld ⊢;refine wpAnyH_take (i := 0) (oi := _) (v := ?_) rfl (by kernel_rfl) (by kernel_rfl) (by kernel_rfl) (fun _ _ _ h => h) (Or.inl ⟨by rfl, ?_⟩) hHeld ?_;rotate_left
 ·intro wq hSw;obtain ⟨hSw0, hSw1, hSw2⟩ := hSw;go_simp
  (try with_reducible rfl)
 (try simp only [Act.put, pk1, pk2, pk3, pk4, pk5, pk6])
 refine wpAnyH_take (i := 1) (oi := _) (v := ?_) rfl (by kernel_rfl) (by kernel_rfl) (by kernel_rfl) (fun _ _ _ h => h) (Or.inl ⟨by rfl, ?_⟩) hHeld ?_;rotate_left
 ·intro wq hSw;obtain ⟨hSw0, hSw1, hSw2⟩ := hSw;go_simp
  (try with_reducible rfl)
 (try simp only [Act.put, pk1, pk2, pk3, pk4, pk5, pk6])
 refine wpAnyH_take (i := 2) (oi := _) (v := ?_) rfl (by kernel_rfl) (by kernel_rfl) (by kernel_rfl) (fun _ _ _ h => h) (Or.inl ⟨by rfl, ?_⟩) hHeld ?_;rotate_left
 ·intro wq hSw;obtain ⟨hSw0, hSw1, hSw2⟩ := hSw;go_simp
  (try with_reducible rfl)
 (try simp only [Act.put, pk1, pk2, pk3, pk4, pk5, pk6])
 refine wpAnyH_take (i := 3) (oi := _) (v := ?_) rfl (by kernel_rfl) (by kernel_rfl) (by kernel_rfl) (fun _ _ _ h => h) (Or.inl ⟨by rfl, ?_⟩) hHeld ?_;rotate_left
 ·intro wq hSw;obtain ⟨hSw0, hSw1, hSw2⟩ := hSw;go_simp
  (try with_reducible rfl)
 (try simp only [Act.put, pk1, pk2, pk3, pk4, pk5, pk6])
 refine wpAnyH_take (i := 4) (oi := _) (v := ?_) rfl (by kernel_rfl) (by kernel_rfl) (by kernel_rfl) (fun _ _ _ h => h) (Or.inl ⟨by rfl, ?_⟩) hHeld ?_;rotate_left
 ·intro wq hSw;obtain ⟨hSw0, hSw1, hSw2⟩ := hSw;go_simp
  (try with_reducible rfl)
 (try simp only [Act.put, pk1, pk2, pk3, pk4, pk5, pk6])
 refine wpAnyH_take (i := 5) (oi := _) (v := ?_) rfl (by kernel_rfl) (by kernel_rfl) (by kernel_rfl) (fun _ _ _ h => h) (Or.inl ⟨by rfl, ?_⟩) hHeld ?_;rotate_left
 ·intro wq hSw;obtain ⟨hSw0, hSw1, hSw2⟩ := hSw;go_simp
  (try with_reducible rfl)
 (try simp only [Act.put, pk1, pk2, pk3, pk4, pk5, pk6])
 refine wpAnyH_ready (rs := [6]) (by kernel_rfl) (by simp) ?_;refine AllReadyH.cons (o := _) rfl (fun K hK => ?_) AllReadyH.nil;go_simp
 go_at_call 34
 refine (Az g q out _ w1 HP1.out ⟨by rw [HZX.out]; omega, by omega⟩).mono ?_;rintro e w9 ⟨rfl, q9, hp9, hk9⟩;have HV9 := hid (HV1.out.prk hk9 (by have := HGL.out; omega) HQN.out);have HP9 := hid hp9;have HK9 := hid (HK1.out.tr hk9);clear hp9 hk9;refine hK.out _ _ ⟨HV9.out.cell 0, HV9.out.cell 1, HV9.out.cell 2⟩ (fun _ => ?_);clear hK K hHeld;refine wpAnyH_done (by kernel_rfl) ?_ _;refine NoPanic.normal ?_;go_wp2_with fail
 go_end0
 exact ⟨rfl, q9, by rw [HE.out]; exact HP9.out, HK9.out⟩
theorem In (g : Nat) (q : Option Nat) (out : List UInt8) (T : ByteArray) (k : Nat) (A : Option Addr) (L cap : Nat) (w : World) (h : PrS w g q out) (hlen : out.length ≤ 1000000000) (hk : k < 14) :
  Calls Tryz.prog 35 #[.pointer (some ⟨g, 0, none⟩), .agg #[.int .i64 5, .string T, .int .i64 ((k : Int) + 1), .slice A L cap]] w fun e w' => e = .returned (.tuple #[]) ∧ ∃ q', PrS w' g q' (out ++ Pr.leafT (5) T.data.toList (((k : Int) + 1))) ∧ PrK w g q w' q' := by
 obtain ⟨W, hW1, hW2, hW3⟩ := F8 k hk
 have HE : Hid (Pr.leafT 5 T.data.toList ((k : Int) + 1) = ((⟨#[107, 105, 110, 100, 32]⟩ : ByteArray) ++ bstr W).data.toList) := hid (by
  rw [Au];unfold Pr.leafT;rw [if_pos rfl, show ((k : Int) + 1 - 1).toNat = k by omega, hW2]
  rfl)
 have hsb : IntKind.i64.wrap (k : Int) = (k : Int) := IntWalk.i64_in _ (by omega);have hk14 : (k : Int) < 14 := by omega
 have HWK := hid hW1;have hz5 : (⟨#[107, 105, 110, 100, 32]⟩ : ByteArray).size = 5 := rfl;have hws : (bstr W).size ≤ 20 := by rw [Ai]; exact hW3
 have HZX : Hid (((⟨#[107, 105, 110, 100, 32]⟩ : ByteArray) ++ bstr W).size ≤ 100) := hid (by rw [ByteArray.size_append, hz5]; omega);have hp1 : ¬ 9223372036854775807 < 5 + (bstr W).size := by omega
 clear hW1 hW2 hW3;have hb1 : Below w.heap.size w (w.alloc (.cells #[.int .i64 5, .string T, .int .i64 ((k : Int) + 1), .slice A L cap] 36)).drew := ((Below.refl w.heap.size w).alloc (Nat.le_refl _) _).drew;have hv0 := Blk.new w 36 #[.int .i64 5, .string T, .int .i64 ((k : Int) + 1), .slice A L cap];have hv1 : Blk (w.alloc (.cells #[.int .i64 5, .string T, .int .i64 ((k : Int) + 1), .slice A L cap] 36)).drew w.heap.size 36 #[.int .i64 5, .string T, .int .i64 ((k : Int) + 1), .slice A L cap] := hv0.drew;have HC0 : Hid ((w.alloc (.cells #[.int .i64 5, .string T, .int .i64 ((k : Int) + 1), .slice A L cap] 36)).drew.cell? ⟨w.heap.size, 0, none⟩ = some (.int .i64 5) ∧ (w.alloc (.cells #[.int .i64 5, .string T, .int .i64 ((k : Int) + 1), .slice A L cap] 36)).drew.cell? ⟨w.heap.size, 1, none⟩ = some (.string T) ∧ (w.alloc (.cells #[.int .i64 5, .string T, .int .i64 ((k : Int) + 1), .slice A L cap] 36)).drew.cell? ⟨w.heap.size, 2, none⟩ = some (.int .i64 ((k : Int) + 1))) := hid ⟨hv1.cell 0, hv1.cell 1, hv1.cell 2⟩;have HGL := hid h.lt;have HQN : Hid (some w.heap.size ≠ q) := hid (fun e => by have := (h.own _ e.symm).2; omega);obtain ⟨w1, hw1⟩ : ∃ w1, (w.alloc (.cells #[.int .i64 5, .string T, .int .i64 ((k : Int) + 1), .slice A L cap] 36)).drew = w1 := ⟨_, rfl⟩;rw [hw1] at hb1 hv1;have HP1 := hid (h.bel hb1);have HK1 : Hid (PrK w g q w1 q) := hid (PrK.of_bel hb1);have HV1 := hid hv1;have HZ1 : Hid (w.heap.size < w1.heap.size) := hid hv1.lt;have HW1 := hid hw1;clear h hb1 hv0 hv1 hw1;go_enter Tryz.func35, Tryz.ntmps35;go_wp2_with fail;refine wp_region_noPanic ?_;refine wp_region_held_drew (S := fun W => W.cell? ⟨w.heap.size, 0, none⟩ = some (.int .i64 5) ∧ W.cell? ⟨w.heap.size, 1, none⟩ = some (.string T) ∧ W.cell? ⟨w.heap.size, 2, none⟩ = some (.int .i64 ((k : Int) + 1))) (by kernel_rfl) HC0.out (fun hHeld => ?_);rw [HW1.out] at hHeld ⊢;refine wpAnyH_take (i := 0) (oi := _) (v := ?_) rfl (by kernel_rfl) (by kernel_rfl) (by kernel_rfl) (fun _ _ _ h => h) (Or.inl ⟨by rfl, ?_⟩) hHeld ?_;rotate_left
 ·intro wq hSw;obtain ⟨hSw0, hSw1, hSw2⟩ := hSw;go_simp
  (try with_reducible rfl)
 (try simp only [Act.put, pk1, pk2, pk3, pk4, pk5, pk6])
 refine wpAnyH_take (i := 1) (oi := _) (v := ?_) rfl (by kernel_rfl) (by kernel_rfl) (by kernel_rfl) (fun _ _ _ h => h) (Or.inl ⟨by rfl, ?_⟩) hHeld ?_;rotate_left
 ·intro wq hSw;obtain ⟨hSw0, hSw1, hSw2⟩ := hSw;go_simp
  (try with_reducible rfl)
 (try simp only [Act.put, pk1, pk2, pk3, pk4, pk5, pk6])
 refine wpAnyH_take (i := 2) (oi := _) (v := ?_) rfl (by kernel_rfl) (by kernel_rfl) (by kernel_rfl) (fun _ _ _ h => h) (Or.inl ⟨by rfl, ?_⟩) hHeld ?_;rotate_left
 ·intro wq hSw;obtain ⟨hSw0, hSw1, hSw2⟩ := hSw;go_simp
  (try with_reducible rfl)
 (try simp only [Act.put, pk1, pk2, pk3, pk4, pk5, pk6])
 refine wpAnyH_take (i := 4) (oi := _) (v := ?_) rfl (by kernel_rfl) (by kernel_rfl) (by kernel_rfl) (fun _ _ _ h => h) (Or.inl ⟨by rfl, ?_⟩) hHeld ?_;rotate_left
 ·intro wq hSw;obtain ⟨hSw0, hSw1, hSw2⟩ := hSw;go_simp
  (try with_reducible rfl)
 (try simp only [Act.put, pk1, pk2, pk3, pk4, pk5, pk6])
 refine wpAnyH_take (i := 5) (oi := _) (v := ?_) rfl (by kernel_rfl) (by kernel_rfl) (by kernel_rfl) (fun _ _ _ h => h) (Or.inl ⟨by rfl, ?_⟩) hHeld ?_;rotate_left
 ·intro wq hSw;obtain ⟨hSw0, hSw1, hSw2⟩ := hSw;go_simp
  (try with_reducible rfl)
 (try simp only [Act.put, pk1, pk2, pk3, pk4, pk5, pk6])
 refine wpAnyH_take (i := 6) (oi := _) (v := ?_) rfl (by kernel_rfl) (by kernel_rfl) (by kernel_rfl) (fun _ _ _ h => h) (Or.inl ⟨by rfl, ?_⟩) hHeld ?_;rotate_left
 ·intro wq hSw;obtain ⟨hSw0, hSw1, hSw2⟩ := hSw;go_simp
  (try with_reducible rfl)
 (try simp only [Act.put, pk1, pk2, pk3, pk4, pk5, pk6])
 refine wpAnyH_ready (rs := [3]) (by kernel_rfl) (by simp) ?_;refine AllReadyH.cons (o := _) rfl (fun K hK => ?_) AllReadyH.nil;go_simp
 go_at_call 72
 refine (Bv w1).mono ?_;rintro e w2 ⟨⟨gk, rfl, hgk, hrd⟩, hb2⟩;have HP2 := hid (HP1.out.bel hb2);have HK2 := hid (HK1.out.tr (PrK.of_bel hb2));have HV2 := hid (HV1.out.below hb2 HV1.out.lt);have HZ2 : Hid (w.heap.size < w2.heap.size) := hid HV2.out.lt;have hrdk := hrd.2 k (.string (bstr W)) (by unfold strL; rw [List.getElem?_map, HWK.out]; rfl);obtain ⟨gb, ob, hgo, hck⟩ := hrdk;injection hgo with hgo;injection hgo with e1 e2;subst e1;subst e2;rw [Nat.zero_add] at hck;clear hrd hgk;refine hK.out _ _ ⟨HV2.out.cell 0, HV2.out.cell 1, HV2.out.cell 2⟩ (fun hHeld2 => ?_);clear hb2;clear hK K hHeld;have hHeld := hHeld2;clear hHeld2
 (try simp only [Act.put, pk1, pk2, pk3, pk4, pk5, pk6])
 refine wpAnyH_take (i := 7) (oi := _) (v := ?_) rfl (by kernel_rfl) (by kernel_rfl) (by kernel_rfl) (fun _ _ _ h => h) (Or.inl ⟨by rfl, ?_⟩) hHeld ?_;rotate_left
 ·intro wq hSw;obtain ⟨hSw0, hSw1, hSw2⟩ := hSw;go_simp
  (try with_reducible rfl)
 (try simp only [Act.put, pk1, pk2, pk3, pk4, pk5, pk6])
 refine wpAnyH_ready (rs := [8]) (by kernel_rfl) (by simp) ?_;refine AllReadyH.cons (o := _) rfl (fun K hK => ?_) AllReadyH.nil;go_simp;refine hK.out _ _ hHeld (fun hHeld2 => ?_);clear hK K hHeld;have hHeld := hHeld2;clear hHeld2
 (try simp only [Act.put, pk1, pk2, pk3, pk4, pk5, pk6])
 refine wpAnyH_take (i := 9) (oi := _) (v := ?_) rfl (by kernel_rfl) (by kernel_rfl) (by kernel_rfl) (fun _ _ _ h => h) (Or.inl ⟨by rfl, ?_⟩) hHeld ?_;rotate_left
 ·intro wq hSw;obtain ⟨hSw0, hSw1, hSw2⟩ := hSw;go_simp
  (try with_reducible rfl)
 (try simp only [Act.put, pk1, pk2, pk3, pk4, pk5, pk6])
 refine wpAnyH_ready (rs := [10]) (by kernel_rfl) (by simp) ?_;refine AllReadyH.cons (o := _) rfl (fun K hK => ?_) AllReadyH.nil;go_simp
 go_at_call 34
 refine (Az g q out _ w2 HP2.out ⟨by have := HZX.out; omega, by omega⟩).mono ?_;rintro e w9 ⟨rfl, q9, hp9, hk9⟩;have HV9 := hid (HV2.out.prk hk9 (by have := HGL.out; omega) HQN.out);have HP9 := hid hp9;have HK9 := hid (HK2.out.tr hk9);clear hp9 hk9;refine hK.out _ _ ⟨HV9.out.cell 0, HV9.out.cell 1, HV9.out.cell 2⟩ (fun _ => ?_);clear hK K hHeld;refine wpAnyH_done (by kernel_rfl) ?_ _;refine NoPanic.normal ?_;go_wp2_with fail
 go_end0
 exact ⟨rfl, q9, by rw [HE.out]; exact HP9.out, HK9.out⟩
theorem Ie (g : Nat) (q : Option Nat) (out : List UInt8) (T : ByteArray) (n : Int) (A : Option Addr) (L cap : Nat) (w : World) (h : PrS w g q out) (hlen : out.length ≤ 1000000000) (hT : T.size ≤ 1000000) :
  Calls Tryz.prog 35 #[.pointer (some ⟨g, 0, none⟩), .agg #[.int .i64 6, .string T, .int .i64 n, .slice A L cap]] w fun e w' => e = .returned (.tuple #[]) ∧ ∃ q', PrS w' g q' (out ++ Pr.leafT (6) T.data.toList (n)) ∧ PrK w g q w' q' := by
 have hE : Pr.leafT 6 T.data.toList n = (bstr (Pr.fieldW 6) ++ (⟨#[32]⟩ : ByteArray) ++ bstr (Pr.quoteT T.data.toList)).data.toList := by
  rw [Au, Au, List.append_assoc];rfl
 have hfs : (bstr (Pr.fieldW 6)).size ≤ 7 := by rw [Ai]; exact Bd 6
 have hes : (bstr (Pr.quoteT T.data.toList)).size ≤ 4000002 := by
  rw [Ai];have := Cb T.data.toList; rw [← Am] at this; omega
 have HCE : Hid (∀ W, Calls Tryz.prog 74 #[.string T] W fun e w' => e = .returned (.string (bstr (Pr.quoteT T.data.toList))) ∧ Below W.heap.size W w') := hid (fun W => BR T W hT);have HCF : Hid (∀ W, Calls Tryz.prog 73 #[.int .i64 6] W fun e w' => e = .returned (.string (bstr (Pr.fieldW 6))) ∧ W = w') := hid (fun W => A6 6 (by decide) (by decide) W);have HE := hid hE;clear hE;generalize bstr (Pr.fieldW 6) = F at *;generalize bstr (Pr.quoteT T.data.toList) = E at *;have hz1 : (⟨#[32]⟩ : ByteArray).size = 1 := rfl;have HZX : Hid ((F ++ (⟨#[32]⟩ : ByteArray) ++ E).size ≤ 5000000) := hid (by rw [ByteArray.size_append, ByteArray.size_append, hz1]; omega);have hp1 : ¬ 9223372036854775807 < F.size + 1 := by omega
 have hp2 : ¬ 9223372036854775807 < F.size + 1 + E.size := by omega
 have hb1 : Below w.heap.size w (w.alloc (.cells #[.int .i64 6, .string T, .int .i64 n, .slice A L cap] 36)).drew := ((Below.refl w.heap.size w).alloc (Nat.le_refl _) _).drew;have hv0 := Blk.new w 36 #[.int .i64 6, .string T, .int .i64 n, .slice A L cap];have hv1 : Blk (w.alloc (.cells #[.int .i64 6, .string T, .int .i64 n, .slice A L cap] 36)).drew w.heap.size 36 #[.int .i64 6, .string T, .int .i64 n, .slice A L cap] := hv0.drew;have HC0 : Hid ((w.alloc (.cells #[.int .i64 6, .string T, .int .i64 n, .slice A L cap] 36)).drew.cell? ⟨w.heap.size, 0, none⟩ = some (.int .i64 6) ∧ (w.alloc (.cells #[.int .i64 6, .string T, .int .i64 n, .slice A L cap] 36)).drew.cell? ⟨w.heap.size, 1, none⟩ = some (.string T) ∧ (w.alloc (.cells #[.int .i64 6, .string T, .int .i64 n, .slice A L cap] 36)).drew.cell? ⟨w.heap.size, 2, none⟩ = some (.int .i64 n)) := hid ⟨hv1.cell 0, hv1.cell 1, hv1.cell 2⟩;have HGL := hid h.lt;have HQN : Hid (some w.heap.size ≠ q) := hid (fun e => by have := (h.own _ e.symm).2; omega);obtain ⟨w1, hw1⟩ : ∃ w1, (w.alloc (.cells #[.int .i64 6, .string T, .int .i64 n, .slice A L cap] 36)).drew = w1 := ⟨_, rfl⟩;rw [hw1] at hb1 hv1;have HP1 := hid (h.bel hb1);have HK1 : Hid (PrK w g q w1 q) := hid (PrK.of_bel hb1);have HV1 := hid hv1;have HZ1 : Hid (w.heap.size < w1.heap.size) := hid hv1.lt;have HW1 := hid hw1;clear h hb1 hv0 hv1 hw1;go_enter Tryz.func35, Tryz.ntmps35;go_wp2_with fail;refine wp_region_noPanic ?_;refine wp_region_held_drew (S := fun W => W.cell? ⟨w.heap.size, 0, none⟩ = some (.int .i64 6) ∧ W.cell? ⟨w.heap.size, 1, none⟩ = some (.string T) ∧ W.cell? ⟨w.heap.size, 2, none⟩ = some (.int .i64 n)) (by kernel_rfl) HC0.out (fun hHeld => ?_);rw [HW1.out] at hHeld ⊢;refine wpAnyH_take (i := 0) (oi := _) (v := ?_) rfl (by kernel_rfl) (by kernel_rfl) (by kernel_rfl) (fun _ _ _ h => h) (Or.inl ⟨by rfl, ?_⟩) hHeld ?_;rotate_left
 ·intro wq hSw;obtain ⟨hSw0, hSw1, hSw2⟩ := hSw;go_simp
  (try with_reducible rfl)
 (try simp only [Act.put, pk1, pk2, pk3, pk4, pk5, pk6])
 refine wpAnyH_take (i := 1) (oi := _) (v := ?_) rfl (by kernel_rfl) (by kernel_rfl) (by kernel_rfl) (fun _ _ _ h => h) (Or.inl ⟨by rfl, ?_⟩) hHeld ?_;rotate_left
 ·intro wq hSw;obtain ⟨hSw0, hSw1, hSw2⟩ := hSw;go_simp
  (try with_reducible rfl)
 (try simp only [Act.put, pk1, pk2, pk3, pk4, pk5, pk6])
 refine wpAnyH_take (i := 2) (oi := _) (v := ?_) rfl (by kernel_rfl) (by kernel_rfl) (by kernel_rfl) (fun _ _ _ h => h) (Or.inl ⟨by rfl, ?_⟩) hHeld ?_;rotate_left
 ·intro wq hSw;obtain ⟨hSw0, hSw1, hSw2⟩ := hSw;go_simp
  (try with_reducible rfl)
 (try simp only [Act.put, pk1, pk2, pk3, pk4, pk5, pk6])
 refine wpAnyH_take (i := 3) (oi := _) (v := ?_) rfl (by kernel_rfl) (by kernel_rfl) (by kernel_rfl) (fun _ _ _ h => h) (Or.inl ⟨by rfl, ?_⟩) hHeld ?_;rotate_left
 ·intro wq hSw;obtain ⟨hSw0, hSw1, hSw2⟩ := hSw;go_simp
  (try with_reducible rfl)
 (try simp only [Act.put, pk1, pk2, pk3, pk4, pk5, pk6])
 refine wpAnyH_take (i := 4) (oi := _) (v := ?_) rfl (by kernel_rfl) (by kernel_rfl) (by kernel_rfl) (fun _ _ _ h => h) (Or.inl ⟨by rfl, ?_⟩) hHeld ?_;rotate_left
 ·intro wq hSw;obtain ⟨hSw0, hSw1, hSw2⟩ := hSw;go_simp
  (try with_reducible rfl)
 (try simp only [Act.put, pk1, pk2, pk3, pk4, pk5, pk6])
 refine wpAnyH_take (i := 7) (oi := _) (v := ?_) rfl (by kernel_rfl) (by kernel_rfl) (by kernel_rfl) (fun _ _ _ h => h) (Or.inl ⟨by rfl, ?_⟩) hHeld ?_;rotate_left
 ·intro wq hSw;obtain ⟨hSw0, hSw1, hSw2⟩ := hSw;go_simp
  (try with_reducible rfl)
 (try simp only [Act.put, pk1, pk2, pk3, pk4, pk5, pk6])
 refine wpAnyH_take (i := 8) (oi := _) (v := ?_) rfl (by kernel_rfl) (by kernel_rfl) (by kernel_rfl) (fun _ _ _ h => h) (Or.inl ⟨by rfl, ?_⟩) hHeld ?_;rotate_left
 ·intro wq hSw;obtain ⟨hSw0, hSw1, hSw2⟩ := hSw;go_simp
  (try with_reducible rfl)
 (try simp only [Act.put, pk1, pk2, pk3, pk4, pk5, pk6])
 refine wpAnyH_ready (rs := [5]) (by kernel_rfl) (by simp) ?_;refine AllReadyH.cons (o := _) rfl (fun K hK => ?_) AllReadyH.nil;go_simp
 go_at_call 73
 refine (HCF.out w1).mono ?_;rintro e wq ⟨rfl, rfl⟩;refine hK.out _ _ hHeld (fun hHeld2 => ?_);clear hK K hHeld;have hHeld := hHeld2;clear hHeld2
 (try simp only [Act.put, pk1, pk2, pk3, pk4, pk5, pk6])
 refine wpAnyH_take (i := 6) (oi := _) (v := ?_) rfl (by kernel_rfl) (by kernel_rfl) (by kernel_rfl) (fun _ _ _ h => h) (Or.inl ⟨by rfl, ?_⟩) hHeld ?_;rotate_left
 ·intro wq hSw;obtain ⟨hSw0, hSw1, hSw2⟩ := hSw;go_simp
  (try with_reducible rfl)
 (try simp only [Act.put, pk1, pk2, pk3, pk4, pk5, pk6])
 refine wpAnyH_ready (rs := [9]) (by kernel_rfl) (by simp) ?_;refine AllReadyH.cons (o := _) rfl (fun K hK => ?_) AllReadyH.nil;go_simp
 go_at_call 74
 refine (HCE.out w1).mono ?_;rintro e w2 ⟨rfl, hb2⟩;have HP2 := hid (HP1.out.bel hb2);have HK2 := hid (HK1.out.tr (PrK.of_bel hb2));have HV2 := hid (HV1.out.below hb2 HV1.out.lt);have HZ2 : Hid (w.heap.size < w2.heap.size) := hid HV2.out.lt;refine hK.out _ _ ⟨HV2.out.cell 0, HV2.out.cell 1, HV2.out.cell 2⟩ (fun hHeld2 => ?_);clear hb2;clear hK K hHeld;have hHeld := hHeld2;clear hHeld2
 (try simp only [Act.put, pk1, pk2, pk3, pk4, pk5, pk6])
 refine wpAnyH_take (i := 10) (oi := _) (v := ?_) rfl (by kernel_rfl) (by kernel_rfl) (by kernel_rfl) (fun _ _ _ h => h) (Or.inl ⟨by rfl, ?_⟩) hHeld ?_;rotate_left
 ·intro wq hSw;obtain ⟨hSw0, hSw1, hSw2⟩ := hSw;go_simp
  (try with_reducible rfl)
 (try simp only [Act.put, pk1, pk2, pk3, pk4, pk5, pk6])
 refine wpAnyH_ready (rs := [11]) (by kernel_rfl) (by simp) ?_;refine AllReadyH.cons (o := _) rfl (fun K hK => ?_) AllReadyH.nil;go_simp
 go_at_call 34
 refine (Az g q out _ w2 HP2.out ⟨by have := HZX.out; omega, by omega⟩).mono ?_;rintro e w9 ⟨rfl, q9, hp9, hk9⟩;have HV9 := hid (HV2.out.prk hk9 (by have := HGL.out; omega) HQN.out);have HP9 := hid hp9;have HK9 := hid (HK2.out.tr hk9);clear hp9 hk9;refine hK.out _ _ ⟨HV9.out.cell 0, HV9.out.cell 1, HV9.out.cell 2⟩ (fun _ => ?_);clear hK K hHeld;refine wpAnyH_done (by kernel_rfl) ?_ _;refine NoPanic.normal ?_;go_wp2_with fail
 go_end0
 exact ⟨rfl, q9, by rw [HE.out]; exact HP9.out, HK9.out⟩
theorem Ih (g : Nat) (q : Option Nat) (out : List UInt8) (T : ByteArray) (n : Int) (A : Option Addr) (L cap : Nat) (w : World) (h : PrS w g q out) (hlen : out.length ≤ 1000000000) (hT : T.size ≤ 1000000) :
  Calls Tryz.prog 35 #[.pointer (some ⟨g, 0, none⟩), .agg #[.int .i64 7, .string T, .int .i64 n, .slice A L cap]] w fun e w' => e = .returned (.tuple #[]) ∧ ∃ q', PrS w' g q' (out ++ Pr.leafT (7) T.data.toList (n)) ∧ PrK w g q w' q' := by
 have hE : Pr.leafT 7 T.data.toList n = (bstr (Pr.fieldW 7) ++ (⟨#[32]⟩ : ByteArray) ++ bstr (Pr.quoteT T.data.toList)).data.toList := by
  rw [Au, Au, List.append_assoc];rfl
 have hfs : (bstr (Pr.fieldW 7)).size ≤ 7 := by rw [Ai]; exact Bd 7
 have hes : (bstr (Pr.quoteT T.data.toList)).size ≤ 4000002 := by
  rw [Ai];have := Cb T.data.toList; rw [← Am] at this; omega
 have HCE : Hid (∀ W, Calls Tryz.prog 74 #[.string T] W fun e w' => e = .returned (.string (bstr (Pr.quoteT T.data.toList))) ∧ Below W.heap.size W w') := hid (fun W => BR T W hT);have HCF : Hid (∀ W, Calls Tryz.prog 73 #[.int .i64 7] W fun e w' => e = .returned (.string (bstr (Pr.fieldW 7))) ∧ W = w') := hid (fun W => A6 7 (by decide) (by decide) W);have HE := hid hE;clear hE;generalize bstr (Pr.fieldW 7) = F at *;generalize bstr (Pr.quoteT T.data.toList) = E at *;have hz1 : (⟨#[32]⟩ : ByteArray).size = 1 := rfl;have HZX : Hid ((F ++ (⟨#[32]⟩ : ByteArray) ++ E).size ≤ 5000000) := hid (by rw [ByteArray.size_append, ByteArray.size_append, hz1]; omega);have hp1 : ¬ 9223372036854775807 < F.size + 1 := by omega
 have hp2 : ¬ 9223372036854775807 < F.size + 1 + E.size := by omega
 have hb1 : Below w.heap.size w (w.alloc (.cells #[.int .i64 7, .string T, .int .i64 n, .slice A L cap] 36)).drew := ((Below.refl w.heap.size w).alloc (Nat.le_refl _) _).drew;have hv0 := Blk.new w 36 #[.int .i64 7, .string T, .int .i64 n, .slice A L cap];have hv1 : Blk (w.alloc (.cells #[.int .i64 7, .string T, .int .i64 n, .slice A L cap] 36)).drew w.heap.size 36 #[.int .i64 7, .string T, .int .i64 n, .slice A L cap] := hv0.drew;have HC0 : Hid ((w.alloc (.cells #[.int .i64 7, .string T, .int .i64 n, .slice A L cap] 36)).drew.cell? ⟨w.heap.size, 0, none⟩ = some (.int .i64 7) ∧ (w.alloc (.cells #[.int .i64 7, .string T, .int .i64 n, .slice A L cap] 36)).drew.cell? ⟨w.heap.size, 1, none⟩ = some (.string T) ∧ (w.alloc (.cells #[.int .i64 7, .string T, .int .i64 n, .slice A L cap] 36)).drew.cell? ⟨w.heap.size, 2, none⟩ = some (.int .i64 n)) := hid ⟨hv1.cell 0, hv1.cell 1, hv1.cell 2⟩;have HGL := hid h.lt;have HQN : Hid (some w.heap.size ≠ q) := hid (fun e => by have := (h.own _ e.symm).2; omega);obtain ⟨w1, hw1⟩ : ∃ w1, (w.alloc (.cells #[.int .i64 7, .string T, .int .i64 n, .slice A L cap] 36)).drew = w1 := ⟨_, rfl⟩;rw [hw1] at hb1 hv1;have HP1 := hid (h.bel hb1);have HK1 : Hid (PrK w g q w1 q) := hid (PrK.of_bel hb1);have HV1 := hid hv1;have HZ1 : Hid (w.heap.size < w1.heap.size) := hid hv1.lt;have HW1 := hid hw1;clear h hb1 hv0 hv1 hw1;go_enter Tryz.func35, Tryz.ntmps35;go_wp2_with fail;refine wp_region_noPanic ?_;refine wp_region_held_drew (S := fun W => W.cell? ⟨w.heap.size, 0, none⟩ = some (.int .i64 7) ∧ W.cell? ⟨w.heap.size, 1, none⟩ = some (.string T) ∧ W.cell? ⟨w.heap.size, 2, none⟩ = some (.int .i64 n)) (by kernel_rfl) HC0.out (fun hHeld => ?_);rw [HW1.out] at hHeld ⊢;refine wpAnyH_take (i := 0) (oi := _) (v := ?_) rfl (by kernel_rfl) (by kernel_rfl) (by kernel_rfl) (fun _ _ _ h => h) (Or.inl ⟨by rfl, ?_⟩) hHeld ?_;rotate_left
 ·intro wq hSw;obtain ⟨hSw0, hSw1, hSw2⟩ := hSw;go_simp
  (try with_reducible rfl)
 (try simp only [Act.put, pk1, pk2, pk3, pk4, pk5, pk6])
 refine wpAnyH_take (i := 1) (oi := _) (v := ?_) rfl (by kernel_rfl) (by kernel_rfl) (by kernel_rfl) (fun _ _ _ h => h) (Or.inl ⟨by rfl, ?_⟩) hHeld ?_;rotate_left
 ·intro wq hSw;obtain ⟨hSw0, hSw1, hSw2⟩ := hSw;go_simp
  (try with_reducible rfl)
 (try simp only [Act.put, pk1, pk2, pk3, pk4, pk5, pk6])
 refine wpAnyH_take (i := 2) (oi := _) (v := ?_) rfl (by kernel_rfl) (by kernel_rfl) (by kernel_rfl) (fun _ _ _ h => h) (Or.inl ⟨by rfl, ?_⟩) hHeld ?_;rotate_left
 ·intro wq hSw;obtain ⟨hSw0, hSw1, hSw2⟩ := hSw;go_simp
  (try with_reducible rfl)
 (try simp only [Act.put, pk1, pk2, pk3, pk4, pk5, pk6])
 refine wpAnyH_take (i := 3) (oi := _) (v := ?_) rfl (by kernel_rfl) (by kernel_rfl) (by kernel_rfl) (fun _ _ _ h => h) (Or.inl ⟨by rfl, ?_⟩) hHeld ?_;rotate_left
 ·intro wq hSw;obtain ⟨hSw0, hSw1, hSw2⟩ := hSw;go_simp
  (try with_reducible rfl)
 (try simp only [Act.put, pk1, pk2, pk3, pk4, pk5, pk6])
 refine wpAnyH_take (i := 4) (oi := _) (v := ?_) rfl (by kernel_rfl) (by kernel_rfl) (by kernel_rfl) (fun _ _ _ h => h) (Or.inl ⟨by rfl, ?_⟩) hHeld ?_;rotate_left
 ·intro wq hSw;obtain ⟨hSw0, hSw1, hSw2⟩ := hSw;go_simp
  (try with_reducible rfl)
 (try simp only [Act.put, pk1, pk2, pk3, pk4, pk5, pk6])
 refine wpAnyH_take (i := 7) (oi := _) (v := ?_) rfl (by kernel_rfl) (by kernel_rfl) (by kernel_rfl) (fun _ _ _ h => h) (Or.inl ⟨by rfl, ?_⟩) hHeld ?_;rotate_left
 ·intro wq hSw;obtain ⟨hSw0, hSw1, hSw2⟩ := hSw;go_simp
  (try with_reducible rfl)
 (try simp only [Act.put, pk1, pk2, pk3, pk4, pk5, pk6])
 refine wpAnyH_take (i := 8) (oi := _) (v := ?_) rfl (by kernel_rfl) (by kernel_rfl) (by kernel_rfl) (fun _ _ _ h => h) (Or.inl ⟨by rfl, ?_⟩) hHeld ?_;rotate_left
 ·intro wq hSw;obtain ⟨hSw0, hSw1, hSw2⟩ := hSw;go_simp
  (try with_reducible rfl)
 (try simp only [Act.put, pk1, pk2, pk3, pk4, pk5, pk6])
 refine wpAnyH_ready (rs := [5]) (by kernel_rfl) (by simp) ?_;refine AllReadyH.cons (o := _) rfl (fun K hK => ?_) AllReadyH.nil;go_simp
 go_at_call 73
 refine (HCF.out w1).mono ?_;rintro e wq ⟨rfl, rfl⟩;refine hK.out _ _ hHeld (fun hHeld2 => ?_);clear hK K hHeld;have hHeld := hHeld2;clear hHeld2
 (try simp only [Act.put, pk1, pk2, pk3, pk4, pk5, pk6])
 refine wpAnyH_take (i := 6) (oi := _) (v := ?_) rfl (by kernel_rfl) (by kernel_rfl) (by kernel_rfl) (fun _ _ _ h => h) (Or.inl ⟨by rfl, ?_⟩) hHeld ?_;rotate_left
 ·intro wq hSw;obtain ⟨hSw0, hSw1, hSw2⟩ := hSw;go_simp
  (try with_reducible rfl)
 (try simp only [Act.put, pk1, pk2, pk3, pk4, pk5, pk6])
 refine wpAnyH_ready (rs := [9]) (by kernel_rfl) (by simp) ?_;refine AllReadyH.cons (o := _) rfl (fun K hK => ?_) AllReadyH.nil;go_simp
 go_at_call 74
 refine (HCE.out w1).mono ?_;rintro e w2 ⟨rfl, hb2⟩;have HP2 := hid (HP1.out.bel hb2);have HK2 := hid (HK1.out.tr (PrK.of_bel hb2));have HV2 := hid (HV1.out.below hb2 HV1.out.lt);have HZ2 : Hid (w.heap.size < w2.heap.size) := hid HV2.out.lt;refine hK.out _ _ ⟨HV2.out.cell 0, HV2.out.cell 1, HV2.out.cell 2⟩ (fun hHeld2 => ?_);clear hb2;clear hK K hHeld;have hHeld := hHeld2;clear hHeld2
 (try simp only [Act.put, pk1, pk2, pk3, pk4, pk5, pk6])
 refine wpAnyH_take (i := 10) (oi := _) (v := ?_) rfl (by kernel_rfl) (by kernel_rfl) (by kernel_rfl) (fun _ _ _ h => h) (Or.inl ⟨by rfl, ?_⟩) hHeld ?_;rotate_left
 ·intro wq hSw;obtain ⟨hSw0, hSw1, hSw2⟩ := hSw;go_simp
  (try with_reducible rfl)
 (try simp only [Act.put, pk1, pk2, pk3, pk4, pk5, pk6])
 refine wpAnyH_ready (rs := [11]) (by kernel_rfl) (by simp) ?_;refine AllReadyH.cons (o := _) rfl (fun K hK => ?_) AllReadyH.nil;go_simp
 go_at_call 34
 refine (Az g q out _ w2 HP2.out ⟨by have := HZX.out; omega, by omega⟩).mono ?_;rintro e w9 ⟨rfl, q9, hp9, hk9⟩;have HV9 := hid (HV2.out.prk hk9 (by have := HGL.out; omega) HQN.out);have HP9 := hid hp9;have HK9 := hid (HK2.out.tr hk9);clear hp9 hk9;refine hK.out _ _ ⟨HV9.out.cell 0, HV9.out.cell 1, HV9.out.cell 2⟩ (fun _ => ?_);clear hK K hHeld;refine wpAnyH_done (by kernel_rfl) ?_ _;refine NoPanic.normal ?_;go_wp2_with fail
 go_end0
 exact ⟨rfl, q9, by rw [HE.out]; exact HP9.out, HK9.out⟩
theorem Im (g : Nat) (q : Option Nat) (out : List UInt8) (T : ByteArray) (n : Int) (A : Option Addr) (L cap : Nat) (w : World) (h : PrS w g q out) (hlen : out.length ≤ 1000000000) (hT : T.size ≤ 1000000) :
  Calls Tryz.prog 35 #[.pointer (some ⟨g, 0, none⟩), .agg #[.int .i64 8, .string T, .int .i64 n, .slice A L cap]] w fun e w' => e = .returned (.tuple #[]) ∧ ∃ q', PrS w' g q' (out ++ Pr.leafT (8) T.data.toList (n)) ∧ PrK w g q w' q' := by
 have hE : Pr.leafT 8 T.data.toList n = (bstr (Pr.fieldW 8) ++ (⟨#[32]⟩ : ByteArray) ++ bstr (Pr.quoteT T.data.toList)).data.toList := by
  rw [Au, Au, List.append_assoc];rfl
 have hfs : (bstr (Pr.fieldW 8)).size ≤ 7 := by rw [Ai]; exact Bd 8
 have hes : (bstr (Pr.quoteT T.data.toList)).size ≤ 4000002 := by
  rw [Ai];have := Cb T.data.toList; rw [← Am] at this; omega
 have HCE : Hid (∀ W, Calls Tryz.prog 74 #[.string T] W fun e w' => e = .returned (.string (bstr (Pr.quoteT T.data.toList))) ∧ Below W.heap.size W w') := hid (fun W => BR T W hT);have HCF : Hid (∀ W, Calls Tryz.prog 73 #[.int .i64 8] W fun e w' => e = .returned (.string (bstr (Pr.fieldW 8))) ∧ W = w') := hid (fun W => A6 8 (by decide) (by decide) W);have HE := hid hE;clear hE;generalize bstr (Pr.fieldW 8) = F at *;generalize bstr (Pr.quoteT T.data.toList) = E at *;have hz1 : (⟨#[32]⟩ : ByteArray).size = 1 := rfl;have HZX : Hid ((F ++ (⟨#[32]⟩ : ByteArray) ++ E).size ≤ 5000000) := hid (by rw [ByteArray.size_append, ByteArray.size_append, hz1]; omega);have hp1 : ¬ 9223372036854775807 < F.size + 1 := by omega
 have hp2 : ¬ 9223372036854775807 < F.size + 1 + E.size := by omega
 have hb1 : Below w.heap.size w (w.alloc (.cells #[.int .i64 8, .string T, .int .i64 n, .slice A L cap] 36)).drew := ((Below.refl w.heap.size w).alloc (Nat.le_refl _) _).drew;have hv0 := Blk.new w 36 #[.int .i64 8, .string T, .int .i64 n, .slice A L cap];have hv1 : Blk (w.alloc (.cells #[.int .i64 8, .string T, .int .i64 n, .slice A L cap] 36)).drew w.heap.size 36 #[.int .i64 8, .string T, .int .i64 n, .slice A L cap] := hv0.drew;have HC0 : Hid ((w.alloc (.cells #[.int .i64 8, .string T, .int .i64 n, .slice A L cap] 36)).drew.cell? ⟨w.heap.size, 0, none⟩ = some (.int .i64 8) ∧ (w.alloc (.cells #[.int .i64 8, .string T, .int .i64 n, .slice A L cap] 36)).drew.cell? ⟨w.heap.size, 1, none⟩ = some (.string T) ∧ (w.alloc (.cells #[.int .i64 8, .string T, .int .i64 n, .slice A L cap] 36)).drew.cell? ⟨w.heap.size, 2, none⟩ = some (.int .i64 n)) := hid ⟨hv1.cell 0, hv1.cell 1, hv1.cell 2⟩;have HGL := hid h.lt;have HQN : Hid (some w.heap.size ≠ q) := hid (fun e => by have := (h.own _ e.symm).2; omega);obtain ⟨w1, hw1⟩ : ∃ w1, (w.alloc (.cells #[.int .i64 8, .string T, .int .i64 n, .slice A L cap] 36)).drew = w1 := ⟨_, rfl⟩;rw [hw1] at hb1 hv1;have HP1 := hid (h.bel hb1);have HK1 : Hid (PrK w g q w1 q) := hid (PrK.of_bel hb1);have HV1 := hid hv1;have HZ1 : Hid (w.heap.size < w1.heap.size) := hid hv1.lt;have HW1 := hid hw1;clear h hb1 hv0 hv1 hw1;go_enter Tryz.func35, Tryz.ntmps35;go_wp2_with fail;refine wp_region_noPanic ?_;refine wp_region_held_drew (S := fun W => W.cell? ⟨w.heap.size, 0, none⟩ = some (.int .i64 8) ∧ W.cell? ⟨w.heap.size, 1, none⟩ = some (.string T) ∧ W.cell? ⟨w.heap.size, 2, none⟩ = some (.int .i64 n)) (by kernel_rfl) HC0.out (fun hHeld => ?_);rw [HW1.out] at hHeld ⊢;refine wpAnyH_take (i := 0) (oi := _) (v := ?_) rfl (by kernel_rfl) (by kernel_rfl) (by kernel_rfl) (fun _ _ _ h => h) (Or.inl ⟨by rfl, ?_⟩) hHeld ?_;rotate_left
 ·intro wq hSw;obtain ⟨hSw0, hSw1, hSw2⟩ := hSw;go_simp
  (try with_reducible rfl)
 (try simp only [Act.put, pk1, pk2, pk3, pk4, pk5, pk6])
 refine wpAnyH_take (i := 1) (oi := _) (v := ?_) rfl (by kernel_rfl) (by kernel_rfl) (by kernel_rfl) (fun _ _ _ h => h) (Or.inl ⟨by rfl, ?_⟩) hHeld ?_;rotate_left
 ·intro wq hSw;obtain ⟨hSw0, hSw1, hSw2⟩ := hSw;go_simp
  (try with_reducible rfl)
 (try simp only [Act.put, pk1, pk2, pk3, pk4, pk5, pk6])
 refine wpAnyH_take (i := 2) (oi := _) (v := ?_) rfl (by kernel_rfl) (by kernel_rfl) (by kernel_rfl) (fun _ _ _ h => h) (Or.inl ⟨by rfl, ?_⟩) hHeld ?_;rotate_left
 ·intro wq hSw;obtain ⟨hSw0, hSw1, hSw2⟩ := hSw;go_simp
  (try with_reducible rfl)
 (try simp only [Act.put, pk1, pk2, pk3, pk4, pk5, pk6])
 refine wpAnyH_take (i := 3) (oi := _) (v := ?_) rfl (by kernel_rfl) (by kernel_rfl) (by kernel_rfl) (fun _ _ _ h => h) (Or.inl ⟨by rfl, ?_⟩) hHeld ?_;rotate_left
 ·intro wq hSw;obtain ⟨hSw0, hSw1, hSw2⟩ := hSw;go_simp
  (try with_reducible rfl)
 (try simp only [Act.put, pk1, pk2, pk3, pk4, pk5, pk6])
 refine wpAnyH_take (i := 4) (oi := _) (v := ?_) rfl (by kernel_rfl) (by kernel_rfl) (by kernel_rfl) (fun _ _ _ h => h) (Or.inl ⟨by rfl, ?_⟩) hHeld ?_;rotate_left
 ·intro wq hSw;obtain ⟨hSw0, hSw1, hSw2⟩ := hSw;go_simp
  (try with_reducible rfl)
 (try simp only [Act.put, pk1, pk2, pk3, pk4, pk5, pk6])
 refine wpAnyH_take (i := 7) (oi := _) (v := ?_) rfl (by kernel_rfl) (by kernel_rfl) (by kernel_rfl) (fun _ _ _ h => h) (Or.inl ⟨by rfl, ?_⟩) hHeld ?_;rotate_left
 ·intro wq hSw;obtain ⟨hSw0, hSw1, hSw2⟩ := hSw;go_simp
  (try with_reducible rfl)
 (try simp only [Act.put, pk1, pk2, pk3, pk4, pk5, pk6])
 refine wpAnyH_take (i := 8) (oi := _) (v := ?_) rfl (by kernel_rfl) (by kernel_rfl) (by kernel_rfl) (fun _ _ _ h => h) (Or.inl ⟨by rfl, ?_⟩) hHeld ?_;rotate_left
 ·intro wq hSw;obtain ⟨hSw0, hSw1, hSw2⟩ := hSw;go_simp
  (try with_reducible rfl)
 (try simp only [Act.put, pk1, pk2, pk3, pk4, pk5, pk6])
 refine wpAnyH_ready (rs := [5]) (by kernel_rfl) (by simp) ?_;refine AllReadyH.cons (o := _) rfl (fun K hK => ?_) AllReadyH.nil;go_simp
 go_at_call 73
 refine (HCF.out w1).mono ?_;rintro e wq ⟨rfl, rfl⟩;refine hK.out _ _ hHeld (fun hHeld2 => ?_);clear hK K hHeld;have hHeld := hHeld2;clear hHeld2
 (try simp only [Act.put, pk1, pk2, pk3, pk4, pk5, pk6])
 refine wpAnyH_take (i := 6) (oi := _) (v := ?_) rfl (by kernel_rfl) (by kernel_rfl) (by kernel_rfl) (fun _ _ _ h => h) (Or.inl ⟨by rfl, ?_⟩) hHeld ?_;rotate_left
 ·intro wq hSw;obtain ⟨hSw0, hSw1, hSw2⟩ := hSw;go_simp
  (try with_reducible rfl)
 (try simp only [Act.put, pk1, pk2, pk3, pk4, pk5, pk6])
 refine wpAnyH_ready (rs := [9]) (by kernel_rfl) (by simp) ?_;refine AllReadyH.cons (o := _) rfl (fun K hK => ?_) AllReadyH.nil;go_simp
 go_at_call 74
 refine (HCE.out w1).mono ?_;rintro e w2 ⟨rfl, hb2⟩;have HP2 := hid (HP1.out.bel hb2);have HK2 := hid (HK1.out.tr (PrK.of_bel hb2));have HV2 := hid (HV1.out.below hb2 HV1.out.lt);have HZ2 : Hid (w.heap.size < w2.heap.size) := hid HV2.out.lt;refine hK.out _ _ ⟨HV2.out.cell 0, HV2.out.cell 1, HV2.out.cell 2⟩ (fun hHeld2 => ?_);clear hb2;clear hK K hHeld;have hHeld := hHeld2;clear hHeld2
 (try simp only [Act.put, pk1, pk2, pk3, pk4, pk5, pk6])
 refine wpAnyH_take (i := 10) (oi := _) (v := ?_) rfl (by kernel_rfl) (by kernel_rfl) (by kernel_rfl) (fun _ _ _ h => h) (Or.inl ⟨by rfl, ?_⟩) hHeld ?_;rotate_left
 ·intro wq hSw;obtain ⟨hSw0, hSw1, hSw2⟩ := hSw;go_simp
  (try with_reducible rfl)
 (try simp only [Act.put, pk1, pk2, pk3, pk4, pk5, pk6])
 refine wpAnyH_ready (rs := [11]) (by kernel_rfl) (by simp) ?_;refine AllReadyH.cons (o := _) rfl (fun K hK => ?_) AllReadyH.nil;go_simp
 go_at_call 34
 refine (Az g q out _ w2 HP2.out ⟨by have := HZX.out; omega, by omega⟩).mono ?_;rintro e w9 ⟨rfl, q9, hp9, hk9⟩;have HV9 := hid (HV2.out.prk hk9 (by have := HGL.out; omega) HQN.out);have HP9 := hid hp9;have HK9 := hid (HK2.out.tr hk9);clear hp9 hk9;refine hK.out _ _ ⟨HV9.out.cell 0, HV9.out.cell 1, HV9.out.cell 2⟩ (fun _ => ?_);clear hK K hHeld;refine wpAnyH_done (by kernel_rfl) ?_ _;refine NoPanic.normal ?_;go_wp2_with fail
 go_end0
 exact ⟨rfl, q9, by rw [HE.out]; exact HP9.out, HK9.out⟩
end Go.Proofs.YtchkiegehejfmaaGreatDoor
