/- The texts Uv, Uw, Uj of this proof, one behind the other. -/
import Derived.Deep.CutRange
import Derived.Test.YtchkiegehejfmaaGreatDoorMai
import Derived.Test.YtchkiegehejfmaaGreatDoorMae
import Derived.Test.YtchkiegehejfmaaGreatDoorMaj
import Derived.Test.YtchkiegehejfmaaGreatDoorMaf
set_option linter.unusedSimpArgs false
set_option maxHeartbeats 16000000
set_option maxRecDepth 100000
/- The text Uv. -/
namespace Go.Proofs.YtchkiegehejfmaaGreatDoor
open Go.RowKit Go.Lib
set_option linter.unusedVariables false
set_option linter.unusedSimpArgs false
theorem row_yields_u {T : TypeId} {d : TypeDesc} {C : World → Prop} {be : Nat} {X : Array Value} {ops : Array Oper} {op : Oper} {a : Act} (hd : (match d with | .struct _ | .array _ _ => true | _ => false) = true) (hu : Tryz.prog.underlying T = some d) (hi : (Tryz.prog.info? T).map (·.size) = some X.size) (hC : ∀ W, C W → Blk W be T X)
  (hw : Region.wanted op (yielded ops a.tmps) = true) (x : Operand) (ho : op.op = .load T x) (hx : a.eval x = .pointer (some ⟨be, 0, none⟩)) : YieldsIf Tryz.prog ops C op (.agg X) a :=
 .inl ⟨hw, fun w hw' => by
  unfold execOp
  simp only [ho, hx, Instr.loadAt, Instr.sureAddr, Sem.run_bind, Sem.run_pure, Result.andThen_ok, run_loadVar_row w be T T X (0, 0) d (hC w hw') hu (by cases d <;> first | rfl | cases hd) hi]⟩
structure SpX (ok : Nat → Prop) (w w1 : World) (A : Option Addr) (cap : Nat) (o : Int) (t : List UInt8) (n : Int) (ks : List Pr.Cn) : Prop where
 be : Below w.heap.size w w1
 kv : Blk w1 w.heap.size 36 #[.int .i64 o, .string (bstr t), .int .i64 n, .slice A ks.length cap]
 kr : Blk w1 (w.heap.size + 1) 36 zCn
 ka : Blk w1 (w.heap.size + 2) 36 #[.int .i64 1, .string ⟨#[]⟩, .int .i64 0, .slice none 0 0]
 rw : CnRow w1 ok A ks
 sz : w1.heap.size = w.heap.size + 3
theorem SpX.of {ok : Nat → Prop} {w : World} {A : Option Addr} {cap : Nat} {o : Int} {t : List UInt8} {n : Int} {ks : List Pr.Cn} (h : CnRow w ok A ks) : SpX ok w (((w.alloc (.cells #[.int .i64 o, .string (bstr t), .int .i64 n, .slice A ks.length cap] 36)).alloc (.cells zCn 36)).alloc (.cells #[.int .i64 1, .string ⟨#[]⟩, .int .i64 0, .slice none 0 0] 36)) A cap o t n ks := by
 have hs1 : (w.alloc (.cells #[.int .i64 o, .string (bstr t), .int .i64 n, .slice A ks.length cap] 36)).heap.size = w.heap.size + 1 := World.size_alloc ..
 have hs2 : ((w.alloc (.cells #[.int .i64 o, .string (bstr t), .int .i64 n, .slice A ks.length cap] 36)).alloc (.cells zCn 36)).heap.size = w.heap.size + 2 := by rw [World.size_alloc, hs1]
 have hb : Below w.heap.size w (((w.alloc (.cells #[.int .i64 o, .string (bstr t), .int .i64 n, .slice A ks.length cap] 36)).alloc (.cells zCn 36)).alloc (.cells #[.int .i64 1, .string ⟨#[]⟩, .int .i64 0, .slice none 0 0] 36)) := (((Below.refl w.heap.size w).alloc (Nat.le_refl _) _).alloc (by omega) _).alloc (by omega) _
 refine ⟨hb, ((Blk.new w 36 _).alloc _).alloc _, ?_, ?_, h.below hb, by rw [World.size_alloc, hs2]⟩
 ·have := (Blk.new (w.alloc (.cells #[.int .i64 o, .string (bstr t), .int .i64 n, .slice A ks.length cap] 36)) 36 zCn).alloc (.cells #[.int .i64 1, .string ⟨#[]⟩, .int .i64 0, .slice none 0 0] 36)
  rw [hs1] at this
  exact this
 ·have := Blk.new ((w.alloc (.cells #[.int .i64 o, .string (bstr t), .int .i64 n, .slice A ks.length cap] 36)).alloc (.cells zCn 36)) 36 #[.int .i64 1, .string ⟨#[]⟩, .int .i64 0, .slice none 0 0]
  rw [hs2] at this
  exact this
theorem SpX.drew {ok : Nat → Prop} {w w1 : World} {A : Option Addr} {cap : Nat} {o : Int} {t : List UInt8} {n : Int} {ks : List Pr.Cn} (h : SpX ok w w1 A cap o t n ks) : SpX ok w w1.drew A cap o t n ks := ⟨h.be.drew, h.kv, h.kr, h.ka, h.rw.below (Below.refl _ _).drew, h.sz⟩
theorem size_al : (Tryz.prog.info? 36).map (·.size) = some (#[.int .i64 1, .string ⟨#[]⟩, .int .i64 0, .slice none 0 0] : Array Value).size := by rw [size_cond]; rfl
theorem psimple2 (m : Nat) (HS : SimpleTo m) (ok : Nat → Prop) (t : List UInt8) (n : Int) (ks : List Pr.Cn) (A : Option Addr) (cap : Nat) (w : World) (hkm : Pr.nodesL ks ≤ m) (hm6 : m ≤ 100000) (hrow : CnRow w ok A ks) :
  Calls Tryz.prog 15 #[.agg #[.int .i64 2, .string (bstr t), .int .i64 n, .slice A ks.length cap]] w fun e w' => (∃ X, e = .returned (.agg X) ∧ CnV w' (fun b => w.heap.size ≤ b) X (Pr.simple (.mk 2 t n ks))) ∧ Below w.heap.size w w' := by
 have HSI := hid HS
 have HSA := hid size_al
 have hsp0 := SpX.of (cap := cap) (o := 2) (t := t) (n := n) hrow
 have hsp := hsp0.drew
 have HEQ : Hid (Pr.simple (.mk 2 t n ks) = Pr.gath 2 (Pr.flat 2 ks) Pr.never Pr.always) := hid (by rw [Pr.simple_eq]; rfl)
 have HC0 : Hid ((((w.alloc (.cells #[.int .i64 2, .string (bstr t), .int .i64 n, .slice A ks.length cap] 36)).alloc (.cells zCn 36)).alloc (.cells #[.int .i64 1, .string ⟨#[]⟩, .int .i64 0, .slice none 0 0] 36)).cell? ⟨w.heap.size, 3, none⟩ = some (.slice A ks.length cap) ∧ Blk (((w.alloc (.cells #[.int .i64 2, .string (bstr t), .int .i64 n, .slice A ks.length cap] 36)).alloc (.cells zCn 36)).alloc (.cells #[.int .i64 1, .string ⟨#[]⟩, .int .i64 0, .slice none 0 0] 36)) (w.heap.size + 2) 36 #[.int .i64 1, .string ⟨#[]⟩, .int .i64 0, .slice none 0 0]) := hid ⟨hsp0.kv.cell 3, hsp0.ka⟩
 obtain ⟨w1, hw1⟩ : ∃ w1, (((w.alloc (.cells #[.int .i64 2, .string (bstr t), .int .i64 n, .slice A ks.length cap] 36)).alloc (.cells zCn 36)).alloc (.cells #[.int .i64 1, .string ⟨#[]⟩, .int .i64 0, .slice none 0 0] 36)).drew = w1 := ⟨_, rfl⟩
 rw [hw1] at hsp
 have HB1 := hid hsp.be
 have HKV1 := hid hsp.kv
 have HKR1 := hid hsp.kr
 have HKA1 := hid hsp.ka
 have HRW1 := hid hsp.rw
 have HS1 : Hid (w.heap.size + 3 ≤ w1.heap.size) := hid (by have := hsp.sz; omega)
 have HW1 := hid hw1
 clear hsp hsp0 HS hrow hw1
 go_enter Tryz.func15, Tryz.ntmps15
 go_wp2_with fail
 refine wp_region_noPanic ?_
 refine wp_region_held_drew (S := fun W => W.cell? ⟨w.heap.size, 3, none⟩ = some (.slice A ks.length cap) ∧ Blk W (w.heap.size + 2) 36 #[.int .i64 1, .string ⟨#[]⟩, .int .i64 0, .slice none 0 0]) (by kernel_rfl) HC0.out (fun hHeld => ?_)
 rw [HW1.out] at hHeld ⊢
 refine wpAnyH_take (i := 0) (oi := _) (v := ?_) rfl (by kernel_rfl) (by kernel_rfl) (by kernel_rfl) (fun _ _ _ h => h) (Or.inl ⟨by rfl, ?_⟩) hHeld ?_
 rotate_left
 ·intro wq hSw
  obtain ⟨hSw1, -⟩ := hSw
  go_simp
  (try with_reducible rfl)
 (try simp only [Act.put, List.getElem_toArray, List.getElem_cons_zero, List.getElem_cons_succ, List.setIfInBounds_toArray, List.set_cons_zero, List.set_cons_succ])
 refine wpAnyH_take (i := 1) (oi := _) (v := ?_) rfl (by kernel_rfl) (by kernel_rfl) (by kernel_rfl) (fun _ _ _ h => h) (Or.inl ⟨by rfl, ?_⟩) hHeld ?_
 rotate_left
 ·intro wq hSw
  obtain ⟨hSw1, -⟩ := hSw
  go_simp
  (try with_reducible rfl)
 (try simp only [Act.put, List.getElem_toArray, List.getElem_cons_zero, List.getElem_cons_succ, List.setIfInBounds_toArray, List.set_cons_zero, List.set_cons_succ])
 refine wpAnyH_take (i := 3) (oi := _) (v := _) rfl (by kernel_rfl) (by kernel_rfl) (by kernel_rfl) (fun _ _ _ h => h) (row_yields_u rfl Tryz.underlying36 HSA.out (fun W h => h.2) (by rfl) _ rfl rfl) hHeld ?_
 (try simp only [Act.put, List.getElem_toArray, List.getElem_cons_zero, List.getElem_cons_succ, List.setIfInBounds_toArray, List.set_cons_zero, List.set_cons_succ])
 refine wpAnyH_ready (rs := [2]) (by kernel_rfl) (by simp) ?_
 refine AllReadyH.cons (o := _) rfl (fun K hK => ?_) AllReadyH.nil
 go_simp
 go_at_call 42
 refine (never_any w1).mono ?_
 rintro e w2 ⟨⟨N, rfl, hN⟩, hb2⟩
 have HB2 := hid (HB1.out.trans (hb2.mono HB1.out.size))
 have HKV2 := hid (HKV1.out.below hb2 HKV1.out.lt)
 have HKA2 := hid (HKA1.out.below hb2 HKA1.out.lt)
 have HKR2 := hid (HKR1.out.below hb2 HKR1.out.lt)
 have HRW2 := hid (HRW1.out.below hb2)
 have HN2 : Hid (CnV w2 (fun b => w.heap.size + 3 ≤ b) N Pr.never) := hid (hN.keep fun b h _ => ⟨Nat.le_trans HS1.out h, rfl⟩)
 have HS2 : Hid (w.heap.size + 3 ≤ w2.heap.size) := hid (Nat.le_trans HS1.out hb2.size)
 refine hK.out _ _ ⟨HKV2.out.cell 3, HKA2.out⟩ (fun hHeld2 => ?_)
 clear hN hb2
 clear hK K hHeld
 have hHeld := hHeld2
 clear hHeld2
 (try simp only [Act.put, List.getElem_toArray, List.getElem_cons_zero, List.getElem_cons_succ, List.setIfInBounds_toArray, List.set_cons_zero, List.set_cons_succ])
 refine wpAnyH_ready (rs := [4]) (by kernel_rfl) (by simp) ?_
 refine AllReadyH.cons (o := _) rfl (fun K hK => ?_) AllReadyH.nil
 go_simp
 go_at_call 41
 refine (pgath_any m HSI.out ok (fun b => w.heap.size + 3 ≤ b) (fun b => w.heap.size + 3 ≤ b) 2 ks A cap Pr.never Pr.always N #[.int .i64 1, .string ⟨#[]⟩, .int .i64 0, .slice none 0 0] w2 hkm (by omega) HRW2.out HN2.out cn_always (by decide) (by decide)).mono ?_
 rintro e w3 ⟨⟨X, rfl, hX⟩, hb3⟩
 have HB3 := hid (HB2.out.trans (hb3.mono HB2.out.size))
 have HKV3 := hid (HKV2.out.below hb3 HKV2.out.lt)
 have HKA3 := hid (HKA2.out.below hb3 HKA2.out.lt)
 have HKR3 := hid (HKR2.out.below hb3 HKR2.out.lt)
 have HSP := HS2
 have HX3 : Hid (CnV w3 (fun b => w.heap.size + 3 ≤ b ∧ True) X (Pr.gath 2 (Pr.flat 2 ks) Pr.never Pr.always)) := hid (hX.keep fun b h _ => ⟨⟨by have := HSP.out; omega, trivial⟩, rfl⟩)
 have HSX : Hid (X.size = 4) := hid hX.size
 have HOX := hid hX.one
 have HS3 : Hid (w.heap.size + 3 ≤ w3.heap.size) := hid (Nat.le_trans HS2.out hb3.size)
 refine hK.out _ _ ⟨HKV3.out.cell 3, HKA3.out⟩ (fun hHeld2 => ?_)
 clear hX hb3
 clear hK K hHeld
 have hHeld := hHeld2
 clear hHeld2
 (try simp only [Act.put, List.getElem_toArray, List.getElem_cons_zero, List.getElem_cons_succ, List.setIfInBounds_toArray, List.set_cons_zero, List.set_cons_succ])
 refine wpAnyH_ready (rs := [5]) (by kernel_rfl) (by simp) ?_
 refine AllReadyH.cons (o := _) rfl (fun K hK => ?_) AllReadyH.nil
 rw [if_pos (by rfl)]
 refine wp_store_row 36 _ _ rfl (w.heap.size + 1) X rfl rfl 36 zCn HKR3.out (by rw [size_cond, HSX.out]) (by rw [HSX.out]; rfl) HOX.out ?_
 have hHeld2 : (w3.setRow (w.heap.size + 1) X).cell? ⟨w.heap.size, 3, none⟩ = some (.slice A ks.length cap) ∧ Blk (w3.setRow (w.heap.size + 1) X) (w.heap.size + 2) 36 #[.int .i64 1, .string ⟨#[]⟩, .int .i64 0, .slice none 0 0] := by
  have h1 : Blk (w3.setRow (w.heap.size + 1) X) w.heap.size 36 #[.int .i64 2, .string (bstr t), .int .i64 n, .slice A ks.length cap] := (setRow_other _ _ _ _ (by omega)).trans HKV3.out
  have h2 : Blk (w3.setRow (w.heap.size + 1) X) (w.heap.size + 2) 36 #[.int .i64 1, .string ⟨#[]⟩, .int .i64 0, .slice none 0 0] := (setRow_other _ _ _ _ (by omega)).trans HKA3.out
  exact ⟨h1.cell 3, h2⟩
 refine hK.out _ _ hHeld2 (fun _ => ?_)
 clear hK K hHeld
 have HK9 := hid (setRow_heap w3 (w.heap.size + 1) zCn X 36 (0, 0) HKR3.out)
 have HB9 := hid (below_setRow (g := w.heap.size + 1) HB3.out (Nat.le_succ _) X)
 refine wpAnyH_done (by kernel_rfl) ?_ _
 refine NoPanic.normal ?_
 go_wp2_with fail
 exact bodyPost_ret (v := .agg X) (results_cell_row rfl _ _ (w.heap.size + 1) 36 _ (0, 0) _ rfl HK9.out Tryz.underlying36 rfl (by rw [size_cond, HSX.out])) rfl ⟨⟨_, rfl, by rw [HEQ.out]; exact HX3.out.keep fun b hb hl => ⟨by omega, setRow_other _ _ _ _ (by omega)⟩⟩, HB9.out⟩
theorem psimple3 (m : Nat) (HS : SimpleTo m) (ok : Nat → Prop) (t : List UInt8) (n : Int) (ks : List Pr.Cn) (A : Option Addr) (cap : Nat) (w : World) (hkm : Pr.nodesL ks ≤ m) (hm6 : m ≤ 100000) (hrow : CnRow w ok A ks) :
  Calls Tryz.prog 15 #[.agg #[.int .i64 3, .string (bstr t), .int .i64 n, .slice A ks.length cap]] w fun e w' => (∃ X, e = .returned (.agg X) ∧ CnV w' (fun b => w.heap.size ≤ b) X (Pr.simple (.mk 3 t n ks))) ∧ Below w.heap.size w w' := by
 have HSI := hid HS
 have HSA := hid size_al
 have hsp0 := SpX.of (cap := cap) (o := 3) (t := t) (n := n) hrow
 have hsp := hsp0.drew
 have HEQ : Hid (Pr.simple (.mk 3 t n ks) = Pr.gath 3 (Pr.flat 3 ks) Pr.always Pr.never) := hid (by rw [Pr.simple_eq]; rfl)
 have HC0 : Hid ((((w.alloc (.cells #[.int .i64 3, .string (bstr t), .int .i64 n, .slice A ks.length cap] 36)).alloc (.cells zCn 36)).alloc (.cells #[.int .i64 1, .string ⟨#[]⟩, .int .i64 0, .slice none 0 0] 36)).cell? ⟨w.heap.size, 3, none⟩ = some (.slice A ks.length cap) ∧ Blk (((w.alloc (.cells #[.int .i64 3, .string (bstr t), .int .i64 n, .slice A ks.length cap] 36)).alloc (.cells zCn 36)).alloc (.cells #[.int .i64 1, .string ⟨#[]⟩, .int .i64 0, .slice none 0 0] 36)) (w.heap.size + 2) 36 #[.int .i64 1, .string ⟨#[]⟩, .int .i64 0, .slice none 0 0]) := hid ⟨hsp0.kv.cell 3, hsp0.ka⟩
 obtain ⟨w1, hw1⟩ : ∃ w1, (((w.alloc (.cells #[.int .i64 3, .string (bstr t), .int .i64 n, .slice A ks.length cap] 36)).alloc (.cells zCn 36)).alloc (.cells #[.int .i64 1, .string ⟨#[]⟩, .int .i64 0, .slice none 0 0] 36)).drew = w1 := ⟨_, rfl⟩
 rw [hw1] at hsp
 have HB1 := hid hsp.be
 have HKV1 := hid hsp.kv
 have HKR1 := hid hsp.kr
 have HKA1 := hid hsp.ka
 have HRW1 := hid hsp.rw
 have HS1 : Hid (w.heap.size + 3 ≤ w1.heap.size) := hid (by have := hsp.sz; omega)
 have HW1 := hid hw1
 clear hsp hsp0 HS hrow hw1
 go_enter Tryz.func15, Tryz.ntmps15
 go_wp2_with fail
 refine wp_region_noPanic ?_
 refine wp_region_held_drew (S := fun W => W.cell? ⟨w.heap.size, 3, none⟩ = some (.slice A ks.length cap) ∧ Blk W (w.heap.size + 2) 36 #[.int .i64 1, .string ⟨#[]⟩, .int .i64 0, .slice none 0 0]) (by kernel_rfl) HC0.out (fun hHeld => ?_)
 rw [HW1.out] at hHeld ⊢
 refine wpAnyH_take (i := 0) (oi := _) (v := ?_) rfl (by kernel_rfl) (by kernel_rfl) (by kernel_rfl) (fun _ _ _ h => h) (Or.inl ⟨by rfl, ?_⟩) hHeld ?_
 rotate_left
 ·intro wq hSw
  obtain ⟨hSw1, -⟩ := hSw
  go_simp
  (try with_reducible rfl)
 (try simp only [Act.put, List.getElem_toArray, List.getElem_cons_zero, List.getElem_cons_succ, List.setIfInBounds_toArray, List.set_cons_zero, List.set_cons_succ])
 refine wpAnyH_take (i := 1) (oi := _) (v := ?_) rfl (by kernel_rfl) (by kernel_rfl) (by kernel_rfl) (fun _ _ _ h => h) (Or.inl ⟨by rfl, ?_⟩) hHeld ?_
 rotate_left
 ·intro wq hSw
  obtain ⟨hSw1, -⟩ := hSw
  go_simp
  (try with_reducible rfl)
 (try simp only [Act.put, List.getElem_toArray, List.getElem_cons_zero, List.getElem_cons_succ, List.setIfInBounds_toArray, List.set_cons_zero, List.set_cons_succ])
 refine wpAnyH_take (i := 2) (oi := _) (v := _) rfl (by kernel_rfl) (by kernel_rfl) (by kernel_rfl) (fun _ _ _ h => h) (row_yields_u rfl Tryz.underlying36 HSA.out (fun W h => h.2) (by rfl) _ rfl rfl) hHeld ?_
 (try simp only [Act.put, List.getElem_toArray, List.getElem_cons_zero, List.getElem_cons_succ, List.setIfInBounds_toArray, List.set_cons_zero, List.set_cons_succ])
 refine wpAnyH_ready (rs := [3]) (by kernel_rfl) (by simp) ?_
 refine AllReadyH.cons (o := _) rfl (fun K hK => ?_) AllReadyH.nil
 go_simp
 go_at_call 42
 refine (never_any w1).mono ?_
 rintro e w2 ⟨⟨N, rfl, hN⟩, hb2⟩
 have HB2 := hid (HB1.out.trans (hb2.mono HB1.out.size))
 have HKV2 := hid (HKV1.out.below hb2 HKV1.out.lt)
 have HKA2 := hid (HKA1.out.below hb2 HKA1.out.lt)
 have HKR2 := hid (HKR1.out.below hb2 HKR1.out.lt)
 have HRW2 := hid (HRW1.out.below hb2)
 have HN2 : Hid (CnV w2 (fun b => w.heap.size + 3 ≤ b) N Pr.never) := hid (hN.keep fun b h _ => ⟨Nat.le_trans HS1.out h, rfl⟩)
 have HS2 : Hid (w.heap.size + 3 ≤ w2.heap.size) := hid (Nat.le_trans HS1.out hb2.size)
 refine hK.out _ _ ⟨HKV2.out.cell 3, HKA2.out⟩ (fun hHeld2 => ?_)
 clear hN hb2
 clear hK K hHeld
 have hHeld := hHeld2
 clear hHeld2
 (try simp only [Act.put, List.getElem_toArray, List.getElem_cons_zero, List.getElem_cons_succ, List.setIfInBounds_toArray, List.set_cons_zero, List.set_cons_succ])
 refine wpAnyH_ready (rs := [4]) (by kernel_rfl) (by simp) ?_
 refine AllReadyH.cons (o := _) rfl (fun K hK => ?_) AllReadyH.nil
 go_simp
 go_at_call 41
 refine (pgath_any m HSI.out ok (fun b => w.heap.size + 3 ≤ b) (fun b => w.heap.size + 3 ≤ b) 3 ks A cap Pr.always Pr.never #[.int .i64 1, .string ⟨#[]⟩, .int .i64 0, .slice none 0 0] N w2 hkm (by omega) HRW2.out cn_always HN2.out (by decide) (by decide)).mono ?_
 rintro e w3 ⟨⟨X, rfl, hX⟩, hb3⟩
 have HB3 := hid (HB2.out.trans (hb3.mono HB2.out.size))
 have HKV3 := hid (HKV2.out.below hb3 HKV2.out.lt)
 have HKA3 := hid (HKA2.out.below hb3 HKA2.out.lt)
 have HKR3 := hid (HKR2.out.below hb3 HKR2.out.lt)
 have HSP := HS2
 have HX3 : Hid (CnV w3 (fun b => w.heap.size + 3 ≤ b ∧ True) X (Pr.gath 3 (Pr.flat 3 ks) Pr.always Pr.never)) := hid (hX.keep fun b h _ => ⟨⟨by have := HSP.out; omega, trivial⟩, rfl⟩)
 have HSX : Hid (X.size = 4) := hid hX.size
 have HOX := hid hX.one
 have HS3 : Hid (w.heap.size + 3 ≤ w3.heap.size) := hid (Nat.le_trans HS2.out hb3.size)
 refine hK.out _ _ ⟨HKV3.out.cell 3, HKA3.out⟩ (fun hHeld2 => ?_)
 clear hX hb3
 clear hK K hHeld
 have hHeld := hHeld2
 clear hHeld2
 (try simp only [Act.put, List.getElem_toArray, List.getElem_cons_zero, List.getElem_cons_succ, List.setIfInBounds_toArray, List.set_cons_zero, List.set_cons_succ])
 refine wpAnyH_ready (rs := [5]) (by kernel_rfl) (by simp) ?_
 refine AllReadyH.cons (o := _) rfl (fun K hK => ?_) AllReadyH.nil
 rw [if_pos (by rfl)]
 refine wp_store_row 36 _ _ rfl (w.heap.size + 1) X rfl rfl 36 zCn HKR3.out (by rw [size_cond, HSX.out]) (by rw [HSX.out]; rfl) HOX.out ?_
 have hHeld2 : (w3.setRow (w.heap.size + 1) X).cell? ⟨w.heap.size, 3, none⟩ = some (.slice A ks.length cap) ∧ Blk (w3.setRow (w.heap.size + 1) X) (w.heap.size + 2) 36 #[.int .i64 1, .string ⟨#[]⟩, .int .i64 0, .slice none 0 0] := by
  have h1 : Blk (w3.setRow (w.heap.size + 1) X) w.heap.size 36 #[.int .i64 3, .string (bstr t), .int .i64 n, .slice A ks.length cap] := (setRow_other _ _ _ _ (by omega)).trans HKV3.out
  have h2 : Blk (w3.setRow (w.heap.size + 1) X) (w.heap.size + 2) 36 #[.int .i64 1, .string ⟨#[]⟩, .int .i64 0, .slice none 0 0] := (setRow_other _ _ _ _ (by omega)).trans HKA3.out
  exact ⟨h1.cell 3, h2⟩
 refine hK.out _ _ hHeld2 (fun _ => ?_)
 clear hK K hHeld
 have HK9 := hid (setRow_heap w3 (w.heap.size + 1) zCn X 36 (0, 0) HKR3.out)
 have HB9 := hid (below_setRow (g := w.heap.size + 1) HB3.out (Nat.le_succ _) X)
 refine wpAnyH_done (by kernel_rfl) ?_ _
 refine NoPanic.normal ?_
 go_wp2_with fail
 exact bodyPost_ret (v := .agg X) (results_cell_row rfl _ _ (w.heap.size + 1) 36 _ (0, 0) _ rfl HK9.out Tryz.underlying36 rfl (by rw [size_cond, HSX.out])) rfl ⟨⟨_, rfl, by rw [HEQ.out]; exact HX3.out.keep fun b hb hl => ⟨by omega, setRow_other _ _ _ _ (by omega)⟩⟩, HB9.out⟩
theorem psimple4 (m : Nat) (HS : SimpleTo m) (ok : Nat → Prop) (t : List UInt8) (n : Int) (ks : List Pr.Cn) (A : Option Addr) (cap : Nat) (w : World) (hkm : Pr.nodesL ks ≤ m) (hm6 : m ≤ 100000) (hrow : CnRow w ok A ks) :
  Calls Tryz.prog 15 #[.agg #[.int .i64 4, .string (bstr t), .int .i64 n, .slice A ks.length cap]] w fun e w' => (∃ X, e = .returned (.agg X) ∧ CnV w' (fun b => w.heap.size ≤ b) X (Pr.simple (.mk 4 t n ks))) ∧ Below w.heap.size w w' := by
 have HSI := hid HS
 have HSA := hid size_al
 have hsp0 := SpX.of (cap := cap) (o := 4) (t := t) (n := n) hrow
 have hsp := hsp0.drew
 have HEQ : Hid (Pr.simple (.mk 4 t n ks) = Pr.notOf (Pr.gath 3 (Pr.flat 3 ks) Pr.always Pr.never)) := hid (by rw [Pr.simple_eq]; rfl)
 have HC0 : Hid ((((w.alloc (.cells #[.int .i64 4, .string (bstr t), .int .i64 n, .slice A ks.length cap] 36)).alloc (.cells zCn 36)).alloc (.cells #[.int .i64 1, .string ⟨#[]⟩, .int .i64 0, .slice none 0 0] 36)).cell? ⟨w.heap.size, 3, none⟩ = some (.slice A ks.length cap) ∧ Blk (((w.alloc (.cells #[.int .i64 4, .string (bstr t), .int .i64 n, .slice A ks.length cap] 36)).alloc (.cells zCn 36)).alloc (.cells #[.int .i64 1, .string ⟨#[]⟩, .int .i64 0, .slice none 0 0] 36)) (w.heap.size + 2) 36 #[.int .i64 1, .string ⟨#[]⟩, .int .i64 0, .slice none 0 0]) := hid ⟨hsp0.kv.cell 3, hsp0.ka⟩
 obtain ⟨w1, hw1⟩ : ∃ w1, (((w.alloc (.cells #[.int .i64 4, .string (bstr t), .int .i64 n, .slice A ks.length cap] 36)).alloc (.cells zCn 36)).alloc (.cells #[.int .i64 1, .string ⟨#[]⟩, .int .i64 0, .slice none 0 0] 36)).drew = w1 := ⟨_, rfl⟩
 rw [hw1] at hsp
 have HB1 := hid hsp.be
 have HKV1 := hid hsp.kv
 have HKR1 := hid hsp.kr
 have HKA1 := hid hsp.ka
 have HRW1 := hid hsp.rw
 have HS1 : Hid (w.heap.size + 3 ≤ w1.heap.size) := hid (by have := hsp.sz; omega)
 have HW1 := hid hw1
 clear hsp hsp0 HS hrow hw1
 go_enter Tryz.func15, Tryz.ntmps15
 go_wp2_with fail
 go_cut [4] from 27 to 31 (fun p wx => ∃ (g4 : Nat) (X : Array Value), p = .pointer (some ⟨g4, 0, none⟩) ∧ Blk wx g4 36 X ∧ CnV wx (fun b => w.heap.size + 3 ≤ b) X (Pr.gath 3 (Pr.flat 3 ks) Pr.always Pr.never) ∧ Below w.heap.size w wx ∧ Blk wx (w.heap.size + 1) 36 zCn)
 case first =>
  refine wp_region_noPanic ?_
  refine wp_region_held_drew (S := fun W => W.cell? ⟨w.heap.size, 3, none⟩ = some (.slice A ks.length cap) ∧ Blk W (w.heap.size + 2) 36 #[.int .i64 1, .string ⟨#[]⟩, .int .i64 0, .slice none 0 0]) (by kernel_rfl) HC0.out (fun hHeld => ?_)
  rw [HW1.out] at hHeld ⊢
  refine wpAnyH_take (i := 0) (oi := _) (v := ?_) rfl (by kernel_rfl) (by kernel_rfl) (by kernel_rfl) (fun _ _ _ h => h) (Or.inl ⟨by rfl, ?_⟩) hHeld ?_
  rotate_left
  ·intro wq hSw
   obtain ⟨hSw1, -⟩ := hSw
   go_simp
   (try with_reducible rfl)
  (try simp only [Act.put, List.getElem_toArray, List.getElem_cons_zero, List.getElem_cons_succ, List.setIfInBounds_toArray, List.set_cons_zero, List.set_cons_succ])
  refine wpAnyH_take (i := 1) (oi := _) (v := ?_) rfl (by kernel_rfl) (by kernel_rfl) (by kernel_rfl) (fun _ _ _ h => h) (Or.inl ⟨by rfl, ?_⟩) hHeld ?_
  rotate_left
  ·intro wq hSw
   obtain ⟨hSw1, -⟩ := hSw
   go_simp
   (try with_reducible rfl)
  (try simp only [Act.put, List.getElem_toArray, List.getElem_cons_zero, List.getElem_cons_succ, List.setIfInBounds_toArray, List.set_cons_zero, List.set_cons_succ])
  refine wpAnyH_take (i := 2) (oi := _) (v := _) rfl (by kernel_rfl) (by kernel_rfl) (by kernel_rfl) (fun _ _ _ h => h) (row_yields_u rfl Tryz.underlying36 HSA.out (fun W h => h.2) (by rfl) _ rfl rfl) hHeld ?_
  (try simp only [Act.put, List.getElem_toArray, List.getElem_cons_zero, List.getElem_cons_succ, List.setIfInBounds_toArray, List.set_cons_zero, List.set_cons_succ])
  refine wpAnyH_ready (rs := [3, 5]) (by kernel_rfl) (by simp) ?_
  refine AllReadyH.cons (o := _) rfl (fun K hK => ?_) (AllReadyH.cons (o := _) rfl (fun K hK => ?_) AllReadyH.nil)
  ·go_simp
   go_at_call 42
   refine (never_any w1).mono ?_
   rintro e w2 ⟨⟨N, rfl, hN⟩, hb2⟩
   have HB2 := hid (HB1.out.trans (hb2.mono HB1.out.size))
   have HKV2 := hid (HKV1.out.below hb2 HKV1.out.lt)
   have HKA2 := hid (HKA1.out.below hb2 HKA1.out.lt)
   have HKR2 := hid (HKR1.out.below hb2 HKR1.out.lt)
   have HRW2 := hid (HRW1.out.below hb2)
   have hsz2 := hb2.size
   have HS2 : Hid (w.heap.size + 3 ≤ w2.heap.size) := hid (Nat.le_trans HS1.out hsz2)
   have HN2 : Hid (CnV w2 (fun b => w.heap.size + 3 ≤ b ∧ True) N Pr.never) := hid (hN.keep fun b h _ => ⟨⟨by have := HS1.out; omega, trivial⟩, rfl⟩)
   clear hN
   refine hK.out _ _ ⟨HKV2.out.cell 3, HKA2.out⟩ (fun hHeld2 => ?_)
   clear hb2
   clear hK K hHeld
   have hHeld := hHeld2
   clear hHeld2
   (try simp only [Act.put, List.getElem_toArray, List.getElem_cons_zero, List.getElem_cons_succ, List.setIfInBounds_toArray, List.set_cons_zero, List.set_cons_succ])
   refine wpAnyH_ready (rs := [4, 5]) (by kernel_rfl) (by simp) ?_
   refine AllReadyH.cons (o := _) rfl (fun K hK => ?_) (AllReadyH.cons (o := _) rfl (fun K hK => ?_) AllReadyH.nil)
   ·go_simp
    go_at_call 41
    refine (pgath_any m HSI.out ok (fun b => False) (fun b => w.heap.size + 3 ≤ b ∧ True) 3 ks A cap Pr.always Pr.never #[.int .i64 1, .string ⟨#[]⟩, .int .i64 0, .slice none 0 0] N w2 hkm (by omega) HRW2.out cn_always HN2.out (by decide) (by decide)).mono ?_
    rintro e w3 ⟨⟨X, rfl, hX⟩, hb3⟩
    have HB3 := hid (HB2.out.trans (hb3.mono HB2.out.size))
    have HKV3 := hid (HKV2.out.below hb3 HKV2.out.lt)
    have HKA3 := hid (HKA2.out.below hb3 HKA2.out.lt)
    have HKR3 := hid (HKR2.out.below hb3 HKR2.out.lt)
    have HRW3 := hid (HRW2.out.below hb3)
    have hsz3 := hb3.size
    have HS3 : Hid (w.heap.size + 3 ≤ w3.heap.size) := hid (Nat.le_trans HS2.out hsz3)
    have HX3 : Hid (CnV w3 (fun b => w.heap.size + 3 ≤ b ∧ True) X (Pr.gath 3 (Pr.flat 3 ks) Pr.always Pr.never)) := hid (hX.keep fun b h _ => ⟨by
     rcases h with h | h | h
     ·exact h.elim
     ·exact h
     ·exact ⟨by have := HS2.out; omega, trivial⟩, rfl⟩)
    have HSX : Hid (X.size = 4) := hid hX.size
    have HOX := hid hX.one
    clear hX
    refine hK.out _ _ ⟨HKV3.out.cell 3, HKA3.out⟩ (fun hHeld2 => ?_)
    clear hb3
    clear hK K hHeld
    have hHeld := hHeld2
    clear hHeld2
    (try simp only [Act.put, List.getElem_toArray, List.getElem_cons_zero, List.getElem_cons_succ, List.setIfInBounds_toArray, List.set_cons_zero, List.set_cons_succ])
    refine wpAnyH_ready (rs := [5]) (by kernel_rfl) (by simp) ?_
    refine AllReadyH.cons (o := _) rfl (fun K hK => ?_) AllReadyH.nil
    go_simp
    have hb4 := (Below.refl w3.heap.size w3).alloc (Nat.le_refl _) (.cells zCn 36)
    have hkq := Blk.new w3 36 zCn
    generalize hwq : w3.alloc (.cells zCn 36) = w4 at *
    clear hwq
    have HB4 := hid (HB3.out.trans (hb4.mono HB3.out.size))
    have HKV4 := hid (HKV3.out.below hb4 HKV3.out.lt)
    have HKA4 := hid (HKA3.out.below hb4 HKA3.out.lt)
    have HKR4 := hid (HKR3.out.below hb4 HKR3.out.lt)
    have HRW4 := hid (HRW3.out.below hb4)
    have hsz4 := hb4.size
    have HS4 : Hid (w.heap.size + 3 ≤ w4.heap.size) := hid (Nat.le_trans HS3.out hsz4)
    have HG4 : Hid (Blk w4 w3.heap.size 36 zCn) := hid hkq
    have HGS4 : Hid (w3.heap.size < w4.heap.size) := hid HG4.out.lt
    clear hkq
    have HX4 : Hid (CnV w4 (fun b => w.heap.size + 3 ≤ b ∧ b ≠ w3.heap.size) X (Pr.gath 3 (Pr.flat 3 ks) Pr.always Pr.never)) := hid (HX3.out.keep fun b h hl => ⟨⟨h.1, by omega⟩, hb4.block b hl⟩)
    refine hK.out _ _ ⟨HKV4.out.cell 3, HKA4.out⟩ (fun hHeld2 => ?_)
    clear hb4
    clear hK K hHeld
    have hHeld := hHeld2
    clear hHeld2
    (try simp only [Act.put, List.getElem_toArray, List.getElem_cons_zero, List.getElem_cons_succ, List.setIfInBounds_toArray, List.set_cons_zero, List.set_cons_succ])
    refine wpAnyH_ready (rs := [6]) (by kernel_rfl) (by simp) ?_
    refine AllReadyH.cons (o := _) rfl (fun K hK => ?_) AllReadyH.nil
    rw [if_pos (by rfl)]
    have hg4 : w.heap.size + 3 ≤ w3.heap.size := by first | exact HS1.out | exact HS2.out | exact HS3.out
    refine wp_store_row 36 _ _ rfl (w3.heap.size) X rfl rfl 36 zCn HG4.out (by rw [size_cond, HSX.out]) (by rw [HSX.out]; rfl) HOX.out ?_
    have HKV9 : Hid (Blk (w4.setRow (w3.heap.size) X) w.heap.size 36 #[.int .i64 4, .string (bstr t), .int .i64 n, .slice A ks.length cap]) := hid ((setRow_other _ _ _ _ (by omega)).trans HKV4.out)
    have HKA9 : Hid (Blk (w4.setRow (w3.heap.size) X) (w.heap.size + 2) 36 #[.int .i64 1, .string ⟨#[]⟩, .int .i64 0, .slice none 0 0]) := hid ((setRow_other _ _ _ _ (by omega)).trans HKA4.out)
    have HKR9 : Hid (Blk (w4.setRow (w3.heap.size) X) (w.heap.size + 1) 36 zCn) := hid ((setRow_other _ _ _ _ (by omega)).trans HKR4.out)
    have HKG9 := hid (setRow_heap w4 (w3.heap.size) zCn X 36 (0, 0) HG4.out)
    have HB9 := hid (below_setRow (g := w3.heap.size) HB4.out (by omega) X)
    have HX9 : Hid (CnV (w4.setRow (w3.heap.size) X) (fun b => w.heap.size + 3 ≤ b) X (Pr.gath 3 (Pr.flat 3 ks) Pr.always Pr.never)) := hid (HX4.out.keep fun b hb hl => ⟨hb.1, setRow_other _ _ _ _ hb.2⟩)
    refine hK.out _ _ ⟨HKV9.out.cell 3, HKA9.out⟩ (fun _ => ?_)
    clear hK K hHeld
    refine wpAnyH_done (by kernel_rfl) ?_ _
    refine NoPanic.normal ?_
    go_wp2_with fail
    go_meet
    exact ⟨w3.heap.size, X, rfl, HKG9.out, HX9.out, HB9.out, HKR9.out⟩
   ·go_simp
    have hb3 := (Below.refl w2.heap.size w2).alloc (Nat.le_refl _) (.cells zCn 36)
    have hkq := Blk.new w2 36 zCn
    generalize hwq : w2.alloc (.cells zCn 36) = w3 at *
    clear hwq
    have HB3 := hid (HB2.out.trans (hb3.mono HB2.out.size))
    have HKV3 := hid (HKV2.out.below hb3 HKV2.out.lt)
    have HKA3 := hid (HKA2.out.below hb3 HKA2.out.lt)
    have HKR3 := hid (HKR2.out.below hb3 HKR2.out.lt)
    have HRW3 := hid (HRW2.out.below hb3)
    have hsz3 := hb3.size
    have HS3 : Hid (w.heap.size + 3 ≤ w3.heap.size) := hid (Nat.le_trans HS2.out hsz3)
    have HG3 : Hid (Blk w3 w2.heap.size 36 zCn) := hid hkq
    have HGS3 : Hid (w2.heap.size < w3.heap.size) := hid HG3.out.lt
    clear hkq
    have HN3 : Hid (CnV w3 (fun b => w.heap.size + 3 ≤ b ∧ b ≠ w2.heap.size) N Pr.never) := hid (HN2.out.keep fun b h hl => ⟨⟨h.1, by omega⟩, hb3.block b hl⟩)
    refine hK.out _ _ ⟨HKV3.out.cell 3, HKA3.out⟩ (fun hHeld2 => ?_)
    clear hb3
    clear hK K hHeld
    have hHeld := hHeld2
    clear hHeld2
    (try simp only [Act.put, List.getElem_toArray, List.getElem_cons_zero, List.getElem_cons_succ, List.setIfInBounds_toArray, List.set_cons_zero, List.set_cons_succ])
    refine wpAnyH_ready (rs := [4]) (by kernel_rfl) (by simp) ?_
    refine AllReadyH.cons (o := _) rfl (fun K hK => ?_) AllReadyH.nil
    go_simp
    go_at_call 41
    refine (pgath_any m HSI.out ok (fun b => False) (fun b => w.heap.size + 3 ≤ b ∧ b ≠ w2.heap.size) 3 ks A cap Pr.always Pr.never #[.int .i64 1, .string ⟨#[]⟩, .int .i64 0, .slice none 0 0] N w3 hkm (by omega) HRW3.out cn_always HN3.out (by decide) (by decide)).mono ?_
    rintro e w4 ⟨⟨X, rfl, hX⟩, hb4⟩
    have HB4 := hid (HB3.out.trans (hb4.mono HB3.out.size))
    have HKV4 := hid (HKV3.out.below hb4 HKV3.out.lt)
    have HKA4 := hid (HKA3.out.below hb4 HKA3.out.lt)
    have HKR4 := hid (HKR3.out.below hb4 HKR3.out.lt)
    have HRW4 := hid (HRW3.out.below hb4)
    have hsz4 := hb4.size
    have HS4 : Hid (w.heap.size + 3 ≤ w4.heap.size) := hid (Nat.le_trans HS3.out hsz4)
    have HX4 : Hid (CnV w4 (fun b => w.heap.size + 3 ≤ b ∧ b ≠ w2.heap.size) X (Pr.gath 3 (Pr.flat 3 ks) Pr.always Pr.never)) := hid (hX.keep fun b h _ => ⟨by
     rcases h with h | h | h
     ·exact h.elim
     ·exact h
     ·exact ⟨by have := HS3.out; omega, by have := HGS3.out; omega⟩, rfl⟩)
    have HSX : Hid (X.size = 4) := hid hX.size
    have HOX := hid hX.one
    have HG4 := hid (HG3.out.below hb4 HG3.out.lt)
    have HGS4 : Hid (w2.heap.size < w4.heap.size) := hid HG4.out.lt
    clear hX
    refine hK.out _ _ ⟨HKV4.out.cell 3, HKA4.out⟩ (fun hHeld2 => ?_)
    clear hb4
    clear hK K hHeld
    have hHeld := hHeld2
    clear hHeld2
    (try simp only [Act.put, List.getElem_toArray, List.getElem_cons_zero, List.getElem_cons_succ, List.setIfInBounds_toArray, List.set_cons_zero, List.set_cons_succ])
    refine wpAnyH_ready (rs := [6]) (by kernel_rfl) (by simp) ?_
    refine AllReadyH.cons (o := _) rfl (fun K hK => ?_) AllReadyH.nil
    rw [if_pos (by rfl)]
    have hg4 : w.heap.size + 3 ≤ w2.heap.size := by first | exact HS1.out | exact HS2.out | exact HS3.out
    refine wp_store_row 36 _ _ rfl (w2.heap.size) X rfl rfl 36 zCn HG4.out (by rw [size_cond, HSX.out]) (by rw [HSX.out]; rfl) HOX.out ?_
    have HKV9 : Hid (Blk (w4.setRow (w2.heap.size) X) w.heap.size 36 #[.int .i64 4, .string (bstr t), .int .i64 n, .slice A ks.length cap]) := hid ((setRow_other _ _ _ _ (by omega)).trans HKV4.out)
    have HKA9 : Hid (Blk (w4.setRow (w2.heap.size) X) (w.heap.size + 2) 36 #[.int .i64 1, .string ⟨#[]⟩, .int .i64 0, .slice none 0 0]) := hid ((setRow_other _ _ _ _ (by omega)).trans HKA4.out)
    have HKR9 : Hid (Blk (w4.setRow (w2.heap.size) X) (w.heap.size + 1) 36 zCn) := hid ((setRow_other _ _ _ _ (by omega)).trans HKR4.out)
    have HKG9 := hid (setRow_heap w4 (w2.heap.size) zCn X 36 (0, 0) HG4.out)
    have HB9 := hid (below_setRow (g := w2.heap.size) HB4.out (by omega) X)
    have HX9 : Hid (CnV (w4.setRow (w2.heap.size) X) (fun b => w.heap.size + 3 ≤ b) X (Pr.gath 3 (Pr.flat 3 ks) Pr.always Pr.never)) := hid (HX4.out.keep fun b hb hl => ⟨hb.1, setRow_other _ _ _ _ hb.2⟩)
    refine hK.out _ _ ⟨HKV9.out.cell 3, HKA9.out⟩ (fun _ => ?_)
    clear hK K hHeld
    refine wpAnyH_done (by kernel_rfl) ?_ _
    refine NoPanic.normal ?_
    go_wp2_with fail
    go_meet
    exact ⟨w2.heap.size, X, rfl, HKG9.out, HX9.out, HB9.out, HKR9.out⟩
  ·go_simp
   have hb2 := (Below.refl w1.heap.size w1).alloc (Nat.le_refl _) (.cells zCn 36)
   have hkq := Blk.new w1 36 zCn
   generalize hwq : w1.alloc (.cells zCn 36) = w2 at *
   clear hwq
   have HB2 := hid (HB1.out.trans (hb2.mono HB1.out.size))
   have HKV2 := hid (HKV1.out.below hb2 HKV1.out.lt)
   have HKA2 := hid (HKA1.out.below hb2 HKA1.out.lt)
   have HKR2 := hid (HKR1.out.below hb2 HKR1.out.lt)
   have HRW2 := hid (HRW1.out.below hb2)
   have hsz2 := hb2.size
   have HS2 : Hid (w.heap.size + 3 ≤ w2.heap.size) := hid (Nat.le_trans HS1.out hsz2)
   have HG2 : Hid (Blk w2 w1.heap.size 36 zCn) := hid hkq
   have HGS2 : Hid (w1.heap.size < w2.heap.size) := hid HG2.out.lt
   clear hkq
   refine hK.out _ _ ⟨HKV2.out.cell 3, HKA2.out⟩ (fun hHeld2 => ?_)
   clear hb2
   clear hK K hHeld
   have hHeld := hHeld2
   clear hHeld2
   (try simp only [Act.put, List.getElem_toArray, List.getElem_cons_zero, List.getElem_cons_succ, List.setIfInBounds_toArray, List.set_cons_zero, List.set_cons_succ])
   refine wpAnyH_ready (rs := [3]) (by kernel_rfl) (by simp) ?_
   refine AllReadyH.cons (o := _) rfl (fun K hK => ?_) AllReadyH.nil
   go_simp
   go_at_call 42
   refine (never_any w2).mono ?_
   rintro e w3 ⟨⟨N, rfl, hN⟩, hb3⟩
   have HB3 := hid (HB2.out.trans (hb3.mono HB2.out.size))
   have HKV3 := hid (HKV2.out.below hb3 HKV2.out.lt)
   have HKA3 := hid (HKA2.out.below hb3 HKA2.out.lt)
   have HKR3 := hid (HKR2.out.below hb3 HKR2.out.lt)
   have HRW3 := hid (HRW2.out.below hb3)
   have hsz3 := hb3.size
   have HS3 : Hid (w.heap.size + 3 ≤ w3.heap.size) := hid (Nat.le_trans HS2.out hsz3)
   have HN3 : Hid (CnV w3 (fun b => w.heap.size + 3 ≤ b ∧ b ≠ w1.heap.size) N Pr.never) := hid (hN.keep fun b h _ => ⟨⟨by have := HS2.out; omega, by have := HGS2.out; omega⟩, rfl⟩)
   have HG3 := hid (HG2.out.below hb3 HG2.out.lt)
   have HGS3 : Hid (w1.heap.size < w3.heap.size) := hid HG3.out.lt
   clear hN
   refine hK.out _ _ ⟨HKV3.out.cell 3, HKA3.out⟩ (fun hHeld2 => ?_)
   clear hb3
   clear hK K hHeld
   have hHeld := hHeld2
   clear hHeld2
   (try simp only [Act.put, List.getElem_toArray, List.getElem_cons_zero, List.getElem_cons_succ, List.setIfInBounds_toArray, List.set_cons_zero, List.set_cons_succ])
   refine wpAnyH_ready (rs := [4]) (by kernel_rfl) (by simp) ?_
   refine AllReadyH.cons (o := _) rfl (fun K hK => ?_) AllReadyH.nil
   go_simp
   go_at_call 41
   refine (pgath_any m HSI.out ok (fun b => False) (fun b => w.heap.size + 3 ≤ b ∧ b ≠ w1.heap.size) 3 ks A cap Pr.always Pr.never #[.int .i64 1, .string ⟨#[]⟩, .int .i64 0, .slice none 0 0] N w3 hkm (by omega) HRW3.out cn_always HN3.out (by decide) (by decide)).mono ?_
   rintro e w4 ⟨⟨X, rfl, hX⟩, hb4⟩
   have HB4 := hid (HB3.out.trans (hb4.mono HB3.out.size))
   have HKV4 := hid (HKV3.out.below hb4 HKV3.out.lt)
   have HKA4 := hid (HKA3.out.below hb4 HKA3.out.lt)
   have HKR4 := hid (HKR3.out.below hb4 HKR3.out.lt)
   have HRW4 := hid (HRW3.out.below hb4)
   have hsz4 := hb4.size
   have HS4 : Hid (w.heap.size + 3 ≤ w4.heap.size) := hid (Nat.le_trans HS3.out hsz4)
   have HX4 : Hid (CnV w4 (fun b => w.heap.size + 3 ≤ b ∧ b ≠ w1.heap.size) X (Pr.gath 3 (Pr.flat 3 ks) Pr.always Pr.never)) := hid (hX.keep fun b h _ => ⟨by
    rcases h with h | h | h
    ·exact h.elim
    ·exact h
    ·exact ⟨by have := HS3.out; omega, by have := HGS3.out; omega⟩, rfl⟩)
   have HSX : Hid (X.size = 4) := hid hX.size
   have HOX := hid hX.one
   have HG4 := hid (HG3.out.below hb4 HG3.out.lt)
   have HGS4 : Hid (w1.heap.size < w4.heap.size) := hid HG4.out.lt
   clear hX
   refine hK.out _ _ ⟨HKV4.out.cell 3, HKA4.out⟩ (fun hHeld2 => ?_)
   clear hb4
   clear hK K hHeld
   have hHeld := hHeld2
   clear hHeld2
   (try simp only [Act.put, List.getElem_toArray, List.getElem_cons_zero, List.getElem_cons_succ, List.setIfInBounds_toArray, List.set_cons_zero, List.set_cons_succ])
   refine wpAnyH_ready (rs := [6]) (by kernel_rfl) (by simp) ?_
   refine AllReadyH.cons (o := _) rfl (fun K hK => ?_) AllReadyH.nil
   rw [if_pos (by rfl)]
   have hg4 : w.heap.size + 3 ≤ w1.heap.size := by first | exact HS1.out | exact HS2.out | exact HS3.out
   refine wp_store_row 36 _ _ rfl (w1.heap.size) X rfl rfl 36 zCn HG4.out (by rw [size_cond, HSX.out]) (by rw [HSX.out]; rfl) HOX.out ?_
   have HKV9 : Hid (Blk (w4.setRow (w1.heap.size) X) w.heap.size 36 #[.int .i64 4, .string (bstr t), .int .i64 n, .slice A ks.length cap]) := hid ((setRow_other _ _ _ _ (by omega)).trans HKV4.out)
   have HKA9 : Hid (Blk (w4.setRow (w1.heap.size) X) (w.heap.size + 2) 36 #[.int .i64 1, .string ⟨#[]⟩, .int .i64 0, .slice none 0 0]) := hid ((setRow_other _ _ _ _ (by omega)).trans HKA4.out)
   have HKR9 : Hid (Blk (w4.setRow (w1.heap.size) X) (w.heap.size + 1) 36 zCn) := hid ((setRow_other _ _ _ _ (by omega)).trans HKR4.out)
   have HKG9 := hid (setRow_heap w4 (w1.heap.size) zCn X 36 (0, 0) HG4.out)
   have HB9 := hid (below_setRow (g := w1.heap.size) HB4.out (by omega) X)
   have HX9 : Hid (CnV (w4.setRow (w1.heap.size) X) (fun b => w.heap.size + 3 ≤ b) X (Pr.gath 3 (Pr.flat 3 ks) Pr.always Pr.never)) := hid (HX4.out.keep fun b hb hl => ⟨hb.1, setRow_other _ _ _ _ hb.2⟩)
   refine hK.out _ _ ⟨HKV9.out.cell 3, HKA9.out⟩ (fun _ => ?_)
   clear hK K hHeld
   refine wpAnyH_done (by kernel_rfl) ?_ _
   refine NoPanic.normal ?_
   go_wp2_with fail
   go_meet
   exact ⟨w1.heap.size, X, rfl, HKG9.out, HX9.out, HB9.out, HKR9.out⟩
 case rest =>
  obtain ⟨g4, X, rfl, hk4, hx4, hb4, hkr4⟩ := hcut
  have HF := hid (Pr.gath_fine (op := 3) (by decide) (Pr.flat_fine 3 ks) Pr.fine_always Pr.fine_never)
  have HK4 := hid hk4
  have HX4 := hid hx4
  have HB4 := hid hb4
  have HKR4 := hid hkr4
  obtain ⟨y, hy⟩ : ∃ y, Pr.gath 3 (Pr.flat 3 ks) Pr.always Pr.never = y := ⟨_, rfl⟩
  rw [hy] at HF HX4 HEQ
  clear hk4 hx4 hb4 hkr4 hy HC0 HB1 HKV1 HKR1 HKA1 HRW1 HS1 HW1
  obtain ⟨A', c', rfl, hry⟩ := HX4.out.open
  have HRY := hid hry
  have hc40 := HK4.out.cell 0
  have hc43 := HK4.out.cell 3
  simp only [List.getElem?_toArray, List.getElem?_cons_zero, List.getElem?_cons_succ] at hc40 hc43
  have HS4 : Hid ((Tryz.prog.info? 36).map (·.size) = some (#[.int .i64 y.op, .string (bstr y.text), .int .i64 y.num, .slice A' y.kids.length c'] : Array Value).size) := hid (by rw [size_cond]; rfl)
  clear hry
  by_cases hyo : y.op = 4
  ·have h1 := ((Pr.fine_open y).1 HF.out).1 hyo
   have HN : Hid (Pr.simple (.mk 4 t n ks) = y.kids.headD default) := hid (by rw [HEQ.out]; unfold Pr.notOf; rw [if_pos hyo])
   obtain ⟨x, hx⟩ : ∃ x, y.kids = [x] := by
    match y.kids, h1 with
    | [x], _ => exact ⟨x, rfl⟩
   obtain ⟨b, off, cs, rfl, hok, hr, hcl, hcv⟩ := HRY.out 0 x (by rw [hx]; rfl)
   have HCV := hid hcv
   have hone := hcv.one
   rw [Nat.zero_mul, Nat.add_zero] at hr
   have HL2 : Hid ((Tryz.prog.info? 36).map (·.size) = some cs.length) := hid (by rw [size_cond, hcl])
   have HL3 : Hid ((Tryz.prog.info? 36).map (·.size) = some cs.toArray.size) := hid (by rw [size_cond, List.size_toArray, hcl])
   have HSZ3 : Hid (zCn.size = cs.toArray.size) := hid (by show 4 = cs.toArray.size; rw [List.size_toArray, hcl])
   rw [hx] at hc43 HN
   rw [hyo] at hc40
   simp only [List.length_cons, List.length_nil, Nat.zero_add] at hc43
   clear hcv hx hyo h1 HX4 HK4 HS4
   go_wp2_with (first
    | ((with_reducible refine wpList_load_mid rfl 36 _ rfl b off ?_ cs _ hr Tryz.underlying36 ?_ HL2.out ?_); rfl; rfl)
    | ((with_reducible refine store_row_q rfl 36 _ _ rfl (w.heap.size + 1) cs.toArray ?_ ?_ 36 _ HKR4.out HL3.out HSZ3.out hone ?_); rfl; rfl; intro w9 hk9 hs9 hbl9 hoth9))
   have HB9 : Hid (Below w.heap.size w w9) := hid (HB4.out.trans (hbl9 w.heap.size (by omega)))
   exact bodyPost_ret (v := .agg cs.toArray) (results_cell_row rfl _ _ (w.heap.size + 1) 36 _ (0, 0) _ rfl hk9 Tryz.underlying36 rfl HL3.out) rfl ⟨⟨_, rfl, by rw [HN.out]; exact HCV.out.keep fun b hb hl => ⟨by omega, hoth9 b (by omega)⟩⟩, HB9.out⟩
  ·have hyb : (y.op == 4) = false := beq_eq_false_iff_ne.2 hyo
   have HN : Hid (Pr.simple (.mk 4 t n ks) = .mk 4 [] 0 [y]) := hid (by rw [HEQ.out]; unfold Pr.notOf; rw [if_neg hyo])
   have hba := (Below.refl wc.heap.size wc).alloc (Nat.le_refl _) (.cells #[.int .i64 y.op, .string (bstr y.text), .int .i64 y.num, .slice A' y.kids.length c'] 36)
   have HBA := hid hba
   have HKA := hid (Blk.new wc 36 #[.int .i64 y.op, .string (bstr y.text), .int .i64 y.num, .slice A' y.kids.length c'])
   have HKR5 := hid (HKR4.out.alloc (.cells #[.int .i64 y.op, .string (bstr y.text), .int .i64 y.num, .slice A' y.kids.length c'] 36))
   have HX5 := hid (HX4.out.bel hba)
   have hw4 : w.heap.size + 2 ≤ wc.heap.size := HKR4.out.lt
   have HLR : Hid ((Tryz.prog.info? 36).map (·.size) = some (#[.int .i64 4, .string ⟨#[]⟩, .int .i64 0, .slice (some ⟨wc.heap.size, 0, none⟩) 1 1] : Array Value).size) := hid (by rw [size_cond]; rfl)
   generalize hwa : wc.alloc (.cells #[.int .i64 y.op, .string (bstr y.text), .int .i64 y.num, .slice A' y.kids.length c'] 36) = wa at *
   clear hba hyo
   go_wp2_with (first
    | (refine load_row_u (by rfl) 36 _ rfl g4 rfl 36 _ (0, 0) _ rfl HK4.out Tryz.underlying36 HS4.out ?_)
    | ((with_reducible refine store_row_q rfl 36 _ _ rfl (w.heap.size + 1) #[.int .i64 4, .string ⟨#[]⟩, .int .i64 0, .slice (some ⟨wc.heap.size, 0, none⟩) 1 1] ?_ ?_ 36 _ HKR5.out HLR.out rfl (one_cn _ _ _ _ _ _) ?_); rfl; rfl; intro w9 hk9 hs9 hbl9 hoth9))
   have HB9 : Hid (Below w.heap.size w w9) := hid ((HB4.out.trans (HBA.out.mono HB4.out.size)).trans (hbl9 w.heap.size (by omega)))
   refine bodyPost_ret (v := .agg #[.int .i64 4, .string ⟨#[]⟩, .int .i64 0, .slice (some ⟨wc.heap.size, 0, none⟩) 1 1]) (results_cell_row rfl _ _ (w.heap.size + 1) 36 _ (0, 0) _ rfl hk9 Tryz.underlying36 rfl HLR.out) rfl ⟨⟨_, rfl, ?_⟩, HB9.out⟩
   rw [HN.out]
   have hk9a : Blk w9 wc.heap.size 36 #[.int .i64 y.op, .string (bstr y.text), .int .i64 y.num, .slice A' y.kids.length c'] := (hoth9 _ (by omega)).trans HKA.out
   refine CnV.make (ks := [y]) (A := some ⟨wc.heap.size, 0, none⟩) (fun i c hi => ?_)
   cases i with
   | zero =>
    injection hi with hi
    subst hi
    exact ⟨wc.heap.size, 0, [.int .i64 y.op, .string (bstr y.text), .int .i64 y.num, .slice A' y.kids.length c'], rfl, by omega, fun j v hj => by rw [hk9a.cell]; simpa using hj, rfl, HX5.out.keep fun b hb hl => ⟨by omega, hoth9 b (by omega)⟩⟩
   | succ i => simp at hi
end Go.Proofs.YtchkiegehejfmaaGreatDoor
/- The text Uw. -/
namespace Go.Proofs.YtchkiegehejfmaaGreatDoor
open Go.RowKit Go.Lib
set_option linter.unusedVariables false
set_option linter.unusedSimpArgs false
theorem psimple0 (ok : Nat → Prop) (o : Int) (t : List UInt8) (n : Int) (ks : List Pr.Cn) (A : Option Addr) (cap : Nat) (w : World) (h2 : o ≠ 2) (h3 : o ≠ 3) (h4 : o ≠ 4) (hrow : CnRow w ok A ks) :
  Calls Tryz.prog 15 #[.agg #[.int .i64 o, .string (bstr t), .int .i64 n, .slice A ks.length cap]] w fun e w' => (∃ X, e = .returned (.agg X) ∧ CnV w' (fun b => w.heap.size ≤ b) X (Pr.simple (.mk o t n ks))) ∧ Below w.heap.size w w' := by
 have hsp0 := SpX.of (cap := cap) (o := o) (t := t) (n := n) hrow
 have HE : Hid (Pr.simple (.mk o t n ks) = if Pr.known o then .mk o (if Pr.useText o then t else []) (if Pr.useN o then n else 0) [] else Pr.never) := hid (by rw [Pr.simple_eq]; show (if o = 2 then _ else if o = 3 then _ else if o = 4 then _ else if Pr.known o then _ else _) = _; rw [if_neg h2, if_neg h3, if_neg h4]; rfl)
 have hoi2 : (o == 2) = false := beq_eq_false_iff_ne.2 h2
 have hoi3 : (o == 3) = false := beq_eq_false_iff_ne.2 h3
 have hoi4 : (o == 4) = false := beq_eq_false_iff_ne.2 h4
 have hK : Pr.useKids o = false := by unfold Pr.useKids; rw [hoi2, hoi3, hoi4]; rfl
 have HU := hid (fun W => uses_any o W)
 clear hrow
 go_enter Tryz.func15, Tryz.ntmps15
 cases hkn : Pr.known o with
 | false =>
  rw [hkn] at HU HE
  have HEQ : Hid (Pr.simple (.mk o t n ks) = Pr.never) := hid HE.out
  have HKR := hid hsp0.kr
  have HB0 := hid hsp0.be
  clear hsp0 hkn HE hK
  go_wp2_with fail
  refine (HU.out _).mono ?_
  rintro e w2 ⟨rfl, rfl⟩
  go_wp2_with fail
  refine (never_any _).mono ?_
  rintro e w3 ⟨⟨N, rfl, hN⟩, hb3⟩
  have HKR3 := hid (HKR.out.below hb3 HKR.out.lt)
  have HB3 := hid (HB0.out.trans (hb3.mono HB0.out.size))
  have hsz := HB0.out.size
  have HN : Hid (CnV w3 (fun b => w.heap.size + 3 ≤ b) N Pr.never) := hid (hN.keep fun b h _ => ⟨by rw [World.size_alloc, World.size_alloc, World.size_alloc] at h; exact h, rfl⟩)
  have HSX : Hid ((Tryz.prog.info? 36).map (·.size) = some N.size) := hid (by rw [size_cond, hN.size])
  have HSZ3 : Hid (zCn.size = N.size) := hid (by rw [hN.size]; rfl)
  have hone := hN.one
  clear hN hb3
  go_wp2_with ((with_reducible refine store_row_q rfl 36 _ _ rfl (w.heap.size + 1) N ?_ ?_ 36 _ HKR3.out HSX.out HSZ3.out hone ?_); rfl; rfl; intro w9 hk9 hs9 hbl9 hoth9)
  have HB9 : Hid (Below w.heap.size w w9) := hid (HB3.out.trans (hbl9 w.heap.size (by omega)))
  exact bodyPost_ret (v := .agg N) (results_cell_row rfl _ _ (w.heap.size + 1) 36 _ (0, 0) _ rfl hk9 Tryz.underlying36 rfl HSX.out) rfl ⟨⟨_, rfl, by rw [HEQ.out]; exact HN.out.keep fun b hb hl => ⟨by omega, hoth9 b (by omega)⟩⟩, HB9.out⟩
 | true =>
  rw [hkn, if_pos rfl] at HE
  rw [hkn] at HU
  clear hkn
  cases hT : Pr.useText o with
  | true =>
   have hN : Pr.useN o = false := by unfold Pr.useText at hT; simp at hT; rcases hT with ((rfl | rfl) | rfl) | rfl <;> rfl
   rw [show Pr.usesV o = 1 from by unfold Pr.usesV; rw [hK]; rw [hT]; rfl] at HU
   have HEQ : Hid (Pr.simple (.mk o t n ks) = .mk o t 0 []) := hid (by rw [HE.out, hT, hN]; rfl)
   have HKX := hid (Blk.new (((w.alloc (.cells #[.int .i64 o, .string (bstr t), .int .i64 n, .slice A ks.length cap] 36)).alloc (.cells zCn 36)).alloc (.cells #[.int .i64 1, .string ⟨#[]⟩, .int .i64 0, .slice none 0 0] 36)) 36 #[.int .i64 o, .string (bstr t), .int .i64 0, .slice none 0 0])
   have HKR5 := hid (hsp0.kr.alloc (.cells #[.int .i64 o, .string (bstr t), .int .i64 0, .slice none 0 0] 36))
   have HB5 := hid (hsp0.be.alloc (by rw [hsp0.sz]; omega) (.cells #[.int .i64 o, .string (bstr t), .int .i64 0, .slice none 0 0] 36))
   have HSX : Hid ((Tryz.prog.info? 36).map (·.size) = some (#[.int .i64 o, .string (bstr t), .int .i64 0, .slice none 0 0] : Array Value).size) := hid (by rw [size_cond]; rfl)
   have hsz0 := hsp0.sz
   rw [hsz0] at HKX
   clear hsp0 hT hN hK hsz0
   go_wp2_with fail
   refine (HU.out _).mono ?_
   rintro e w2 ⟨rfl, rfl⟩
   go_wp2_with (first
    | (refine load_row_u (by rfl) 36 _ rfl (w.heap.size + 3) rfl 36 _ (0, 0) _ rfl HKX.out Tryz.underlying36 HSX.out ?_)
    | ((with_reducible refine store_row_q rfl 36 _ _ rfl (w.heap.size + 1) #[.int .i64 o, .string (bstr t), .int .i64 0, .slice none 0 0] ?_ ?_ 36 _ HKR5.out HSX.out rfl (one_cn _ _ _ _ _ _) ?_); rfl; rfl; intro w9 hk9 hs9 hbl9 hoth9))
   have HB9 : Hid (Below w.heap.size w w9) := hid (HB5.out.trans (hbl9 w.heap.size (by omega)))
   exact bodyPost_ret (v := .agg #[.int .i64 o, .string (bstr t), .int .i64 0, .slice none 0 0]) (results_cell_row rfl _ _ (w.heap.size + 1) 36 _ (0, 0) _ rfl hk9 Tryz.underlying36 rfl HSX.out) rfl ⟨⟨_, rfl, by rw [HEQ.out]; exact CnV.make (ks := []) (A := none) (cap := 0) CnRow.nil⟩, HB9.out⟩
  | false => cases hN : Pr.useN o with
   | true =>
    rw [show Pr.usesV o = 2 from by unfold Pr.usesV; rw [hK]; rw [hT, hN]; rfl] at HU
    have HEQ : Hid (Pr.simple (.mk o t n ks) = .mk o [] n []) := hid (by rw [HE.out, hT, hN]; rfl)
    have HKX := hid (Blk.new (((w.alloc (.cells #[.int .i64 o, .string (bstr t), .int .i64 n, .slice A ks.length cap] 36)).alloc (.cells zCn 36)).alloc (.cells #[.int .i64 1, .string ⟨#[]⟩, .int .i64 0, .slice none 0 0] 36)) 36 #[.int .i64 o, .string ⟨#[]⟩, .int .i64 n, .slice none 0 0])
    have HKR5 := hid (hsp0.kr.alloc (.cells #[.int .i64 o, .string ⟨#[]⟩, .int .i64 n, .slice none 0 0] 36))
    have HB5 := hid (hsp0.be.alloc (by rw [hsp0.sz]; omega) (.cells #[.int .i64 o, .string ⟨#[]⟩, .int .i64 n, .slice none 0 0] 36))
    have HSX : Hid ((Tryz.prog.info? 36).map (·.size) = some (#[.int .i64 o, .string ⟨#[]⟩, .int .i64 n, .slice none 0 0] : Array Value).size) := hid (by rw [size_cond]; rfl)
    have hsz0 := hsp0.sz
    rw [hsz0] at HKX
    clear hsp0 hT hN hK hsz0
    go_wp2_with fail
    refine (HU.out _).mono ?_
    rintro e w2 ⟨rfl, rfl⟩
    go_wp2_with (first
     | (refine load_row_u (by rfl) 36 _ rfl (w.heap.size + 3) rfl 36 _ (0, 0) _ rfl HKX.out Tryz.underlying36 HSX.out ?_)
     | ((with_reducible refine store_row_q rfl 36 _ _ rfl (w.heap.size + 1) #[.int .i64 o, .string ⟨#[]⟩, .int .i64 n, .slice none 0 0] ?_ ?_ 36 _ HKR5.out HSX.out rfl (one_cn _ _ _ _ _ _) ?_); rfl; rfl; intro w9 hk9 hs9 hbl9 hoth9))
    have HB9 : Hid (Below w.heap.size w w9) := hid (HB5.out.trans (hbl9 w.heap.size (by omega)))
    exact bodyPost_ret (v := .agg #[.int .i64 o, .string ⟨#[]⟩, .int .i64 n, .slice none 0 0]) (results_cell_row rfl _ _ (w.heap.size + 1) 36 _ (0, 0) _ rfl hk9 Tryz.underlying36 rfl HSX.out) rfl ⟨⟨_, rfl, by rw [HEQ.out]; exact CnV.make (ks := []) (A := none) (cap := 0) CnRow.nil⟩, HB9.out⟩
   | false =>
    rw [show Pr.usesV o = 0 from by unfold Pr.usesV; rw [hK]; rw [hT, hN]; rfl] at HU
    have HEQ : Hid (Pr.simple (.mk o t n ks) = .mk o [] 0 []) := hid (by rw [HE.out, hT, hN]; rfl)
    have HKX := hid (Blk.new (((w.alloc (.cells #[.int .i64 o, .string (bstr t), .int .i64 n, .slice A ks.length cap] 36)).alloc (.cells zCn 36)).alloc (.cells #[.int .i64 1, .string ⟨#[]⟩, .int .i64 0, .slice none 0 0] 36)) 36 #[.int .i64 o, .string ⟨#[]⟩, .int .i64 0, .slice none 0 0])
    have HKR5 := hid (hsp0.kr.alloc (.cells #[.int .i64 o, .string ⟨#[]⟩, .int .i64 0, .slice none 0 0] 36))
    have HB5 := hid (hsp0.be.alloc (by rw [hsp0.sz]; omega) (.cells #[.int .i64 o, .string ⟨#[]⟩, .int .i64 0, .slice none 0 0] 36))
    have HSX : Hid ((Tryz.prog.info? 36).map (·.size) = some (#[.int .i64 o, .string ⟨#[]⟩, .int .i64 0, .slice none 0 0] : Array Value).size) := hid (by rw [size_cond]; rfl)
    have hsz0 := hsp0.sz
    rw [hsz0] at HKX
    clear hsp0 hT hN hK hsz0
    go_wp2_with fail
    refine (HU.out _).mono ?_
    rintro e w2 ⟨rfl, rfl⟩
    go_wp2_with (first
     | (refine load_row_u (by rfl) 36 _ rfl (w.heap.size + 3) rfl 36 _ (0, 0) _ rfl HKX.out Tryz.underlying36 HSX.out ?_)
     | ((with_reducible refine store_row_q rfl 36 _ _ rfl (w.heap.size + 1) #[.int .i64 o, .string ⟨#[]⟩, .int .i64 0, .slice none 0 0] ?_ ?_ 36 _ HKR5.out HSX.out rfl (one_cn _ _ _ _ _ _) ?_); rfl; rfl; intro w9 hk9 hs9 hbl9 hoth9))
    have HB9 : Hid (Below w.heap.size w w9) := hid (HB5.out.trans (hbl9 w.heap.size (by omega)))
    exact bodyPost_ret (v := .agg #[.int .i64 o, .string ⟨#[]⟩, .int .i64 0, .slice none 0 0]) (results_cell_row rfl _ _ (w.heap.size + 1) 36 _ (0, 0) _ rfl hk9 Tryz.underlying36 rfl HSX.out) rfl ⟨⟨_, rfl, by rw [HEQ.out]; exact CnV.make (ks := []) (A := none) (cap := 0) CnRow.nil⟩, HB9.out⟩
theorem psimple_any : ∀ m, m ≤ 100000 → SimpleTo m
 | 0, _ => fun ok c V w hm h => absurd hm (by have := Pr.nodes_pos c; omega)
 | m + 1, hm6 => fun ok c V w hm h => by
  have IH := psimple_any m (by omega)
  obtain ⟨o, t, n, ks⟩ := c
  rw [Pr.nodes] at hm
  obtain ⟨A, cap, rfl, hrow⟩ := h.open
  by_cases h2 : o = 2
  ·subst h2
   exact psimple2 m IH ok t n ks A cap w (by omega) (by omega) hrow
  by_cases h3 : o = 3
  ·subst h3
   exact psimple3 m IH ok t n ks A cap w (by omega) (by omega) hrow
  by_cases h4 : o = 4
  ·subst h4
   exact psimple4 m IH ok t n ks A cap w (by omega) (by omega) hrow
  exact psimple0 ok o t n ks A cap w h2 h3 h4 hrow
end Go.Proofs.YtchkiegehejfmaaGreatDoor
/- The text Uj. -/
namespace Go.Proofs.YtchkiegehejfmaaGreatDoor
open Go.RowKit Go.Lib
set_option linter.unusedVariables false
set_option linter.unusedSimpArgs false
theorem Rd.str_at {w : World} {A : Option Addr} {xs : List (List UInt8)} (h : Rd w A xs.length (strL xs)) {k : Nat} (hk : k < xs.length) : ∃ b off x, A = some ⟨b, off, none⟩ ∧ xs[k]? = some x ∧ w.cell? ⟨b, off + k, none⟩ = some (.string (bstr x)) := by
 obtain ⟨b, off, e, h2⟩ := h.2 k (.string (bstr xs[k])) (by unfold strL; rw [List.getElem?_map, List.getElem?_eq_getElem hk]; rfl)
 exact ⟨b, off, xs[k], e, List.getElem?_eq_getElem hk, h2⟩
theorem clash_any (a b : List UInt8) (g : Nat) (w : World) (ha : a.length ≤ 1000000) (hb : b.length ≤ 1000000) (hc : w.cell? ⟨g, 0, none⟩ = some (.string (bstr a))) :
  Calls Tryz.prog 128 #[.string (bstr b), .pointer (some ⟨g, 0, none⟩)] w fun e w' => e = .returned (.bool (Pr.clash a b)) ∧ w = w' := by
 have HSA := hid (fun W => sound_any (bstr a) W (by rw [bstr_size]; exact ha))
 have HSB := hid (fun W => sound_any (bstr b) W (by rw [bstr_size]; exact hb))
 rw [show (bstr a).data.toList = a from rfl] at HSA
 rw [show (bstr b).data.toList = b from rfl] at HSB
 have hab : ((bstr a).toList == (bstr b).toList) = (a == b) := by rw [Lib.toList_data, Lib.toList_data]; rfl
 unfold Pr.clash
 rw [← hab]
 clear hab
 generalize bstr a = A at *
 generalize bstr b = B at *
 cases h1 : (A.toList == B.toList) with
 | true =>
  go_enter Tryz.func128, Tryz.ntmps128
  go_wp2_with fail
  go_ret
  exact ⟨rfl, rfl⟩
 | false =>
  cases h2 : Pr.isSound a with
  | false =>
   rw [h2] at HSA
   go_enter Tryz.func128, Tryz.ntmps128
   go_wp2_with fail
   refine (HSA.out _).mono ?_
   rintro e w2 ⟨rfl, rfl⟩
   go_wp2_with fail
   go_ret
   exact ⟨rfl, rfl⟩
  | true =>
   rw [h2] at HSA
   generalize Pr.isSound b = sb at *
   go_enter Tryz.func128, Tryz.ntmps128
   go_wp2_with fail
   refine (HSA.out _).mono ?_
   rintro e w2 ⟨rfl, rfl⟩
   go_wp2_with fail
   refine (HSB.out _).mono ?_
   rintro e w2 ⟨rfl, rfl⟩
   go_wp2_with fail
   go_ret
   exact ⟨rfl, rfl⟩
theorem idx_clash (a : List UInt8) (xs : List (List UInt8)) (A : Option Addr) (c g : Nat) (w : World) (ha : a.length ≤ 1000000) (hx : ∀ x ∈ xs, x.length ≤ 1000000) (hn : xs.length ≤ 1000000) (hr : Rd w A xs.length (strL xs)) (hc : w.cell? ⟨g, 0, none⟩ = some (.string (bstr a))) :
  Calls Tryz.prog 156 #[.slice A xs.length c, .func (.func 128) #[] #[.pointer (some ⟨g, 0, none⟩)]] w fun e w' => (∃ z : Int, e = .returned (.int .i64 z) ∧ decide (0 ≤ z) = xs.any (Pr.clash a)) ∧ w = w' := by
 have HR := hid hr
 have HX := hid hx
 have HC := hid (fun b (hb : b.length ≤ 1000000) => clash_any a b g w ha hb hc)
 clear hr hx hc
 go_enter Tryz.func156, Tryz.ntmps156
 go_wp2_with fail
 go_loopw [8] (fun ix wr => ∃ k : Nat, k ≤ xs.length ∧ ix = .int .i64 k ∧ wr = w ∧ ∀ x ∈ xs.take k, Pr.clash a x = false) (fun ix _ => xs.length - (RowKit.intOf ix).toNat)
 case atStart => exact ⟨0, Nat.zero_le _, rfl, rfl, fun c h => by simp at h⟩
 case round =>
  obtain ⟨k, hk, rfl, rfl, hall⟩ := hrel
  have HALL := hid hall
  clear hall
  by_cases hlt : k < xs.length
  ·obtain ⟨b, o, x, rfl, hxk, hcx⟩ := HR.out.str_at hlt
   have HXK := hid hxk
   have HN0 : Hid (Pr.clash a x = false → ∀ y ∈ xs.take (k + 1), Pr.clash a y = false) := hid (fun hn y hy => by
    rw [take_one HXK.out] at hy
    rcases List.mem_append.1 hy with hy | hy
    ·exact HALL.out y hy
    ·rw [List.mem_singleton.1 hy]; exact hn)
   have HK := hid (HC.out x (HX.out x (List.mem_of_getElem? hxk)))
   have HT : Hid (Pr.clash a x = true → xs.any (Pr.clash a) = true) := hid (fun h => List.any_eq_true.2 ⟨x, List.mem_of_getElem? HXK.out, h⟩)
   clear hxk
   cases hcl : Pr.clash a x with
   | true =>
    rw [hcl] at HK
    have HTT := hid (HT.out hcl)
    clear hcl
    go_wp2_with fail
    refine HK.out.mono ?_
    rintro e w2 ⟨rfl, rfl⟩
    go_wp2_with fail
    go_ret
    exact ⟨⟨(k : Int), rfl, by rw [HTT.out]; exact decide_eq_true (by omega)⟩, by trivial⟩
   | false =>
    rw [hcl] at HK
    have HN := hid (HN0.out hcl)
    clear hcl
    go_wp2_with fail
    refine HK.out.mono ?_
    rintro e w2 ⟨rfl, rfl⟩
    go_wp2_with fail
    go_roundw
    case rel => exact ⟨k + 1, by omega, by go_num, by trivial, HN.out⟩
    case measure => simp [RowKit.intOf]; omega
  ·obtain rfl : k = xs.length := by omega
   have HF : Hid (xs.any (Pr.clash a) = false) := hid (by
    rw [List.any_eq_false]
    intro x hx
    rw [HALL.out x (by rw [List.take_length]; exact hx)]
    decide)
   go_wp2_with fail
   go_ret
   exact ⟨⟨-1, rfl, by rw [HF.out]; rfl⟩, by trivial⟩
theorem has_clash (a : List UInt8) (xs : List (List UInt8)) (A : Option Addr) (c g : Nat) (w : World) (ha : a.length ≤ 1000000) (hx : ∀ x ∈ xs, x.length ≤ 1000000) (hn : xs.length ≤ 1000000) (hr : Rd w A xs.length (strL xs)) (hc : w.cell? ⟨g, 0, none⟩ = some (.string (bstr a))) :
  Calls Tryz.prog 129 #[.slice A xs.length c, .func (.func 128) #[] #[.pointer (some ⟨g, 0, none⟩)]] w fun e w' => e = .returned (.bool (xs.any (Pr.clash a))) ∧ w = w' := by
 have HI := hid (idx_clash a xs A c g w ha hx hn hr hc)
 clear hr hx hc
 go_enter Tryz.func129, Tryz.ntmps129
 go_wp2_with fail
 refine HI.out.mono ?_
 rintro e w2 ⟨⟨z, rfl, hz⟩, rfl⟩
 go_wp2_with fail
 go_ret
 exact ⟨rfl, by trivial⟩
end Go.Proofs.YtchkiegehejfmaaGreatDoor
