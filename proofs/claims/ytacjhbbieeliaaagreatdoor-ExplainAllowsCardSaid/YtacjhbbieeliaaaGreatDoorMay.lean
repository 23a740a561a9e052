/- The texts Ne, Nf of this proof, one behind the other. -/
import Derived.BigQuiet
import Derived.Deep.CutRange
import Derived.WalkMore
import Derived.Test.YtacjhbbieeliaaaGreatDoorMax
set_option linter.unusedSimpArgs false
set_option maxHeartbeats 16000000
set_option maxRecDepth 100000
/- The text Ne. -/
namespace Go.Proofs.YtacjhbbieeliaaaGreatDoor
open Go.RowKit Go.Lib
set_option linter.unusedVariables false
set_option linter.unusedSimpArgs false
theorem row_yields_u {T : TypeId} {d : TypeDesc} {C : World → Prop} {be : Nat} {X : Array Value} {ops : Array Oper} {op : Oper} {a : Act} (hd : (match d with | .struct _ | .array _ _ => true | _ => false) = true) (hu : Tryz.prog.underlying T = some d) (hi : (Tryz.prog.info? T).map (·.size) = some X.size) (hC : ∀ W, C W → Blk W be T X)
  (hw : Region.wanted op (yielded ops a.tmps) = true) (x : Operand) (ho : op.op = .load T x) (hx : a.eval x = .pointer (some ⟨be, 0, none⟩)) : YieldsIf Tryz.prog ops C op (.agg X) a :=
 .inl ⟨hw, fun w hw' => by
  unfold execOp
  simp only [ho, hx, Instr.loadAt, Instr.sureAddr, Sem.run_bind, Sem.run_pure, Result.andThen_ok, run_loadVar_row w be T T X (0, 0) d (hC w hw') hu (by cases d <;> first | rfl | cases hd) hi]⟩
def numL (v : Co.Lv) : List Int := [v.lu, v.lm, v.ls, v.li, v.lk, v.lb, v.lr]
def badFrom (v u : Co.Lv) (own : Int) (k : Nat) : Bool := (((numL v).zip (numL u)).drop k).any fun p => Co.barred own p.1 p.2
theorem nums_bad (v u : Co.Lv) (own : Int) : Co.numsBad v u own = badFrom v u own 0 := by
 unfold Co.numsBad badFrom numL
 simp only [List.zip_cons_cons, List.zip_nil_left, List.drop_zero, List.any_cons, List.any_nil, Bool.or_false]
theorem bad_step {v u : Co.Lv} {own : Int} {k : Nat} {p q : Int} (hp : (numL v)[k]? = some p) (hq : (numL u)[k]? = some q) : badFrom v u own k = (Co.barred own p q || badFrom v u own (k + 1)) := by
 unfold badFrom
 have hz : ((numL v).zip (numL u))[k]? = some (p, q) := by rw [List.getElem?_zip_eq_some]; exact ⟨hp, hq⟩
 obtain ⟨h1, h2⟩ := List.getElem?_eq_some_iff.1 hz
 rw [List.drop_eq_getElem_cons h1, h2, List.any_cons]
theorem any_snoc {α : Type} {p : α → Bool} {l : List α} {j : Nat} {x : α} (h : l[j]? = some x) : (l.take (j + 1)).any p = ((l.take j).any p || p x) := by
 rw [List.take_add_one, h, List.any_append]
 simp
theorem any_of {α : Type} {p : α → Bool} {l : List α} {x : α} (h : x ∈ l) (hp : p x = true) : l.any p = true := List.any_eq_true.2 ⟨x, h, hp⟩
theorem change_bad {v u : Co.Lv} {user : List UInt8} (h : Co.numsBad v u (Co.userLv v user) = true ∨ ((v.kinds.any (Co.kindBad v u (Co.userLv v user)) = true ∨ u.kinds.any (Co.kindBad v u (Co.userLv v user)) = true) ∨ (v.users.any (Co.userBad v u (Co.userLv v user) user) = true ∨ u.users.any (Co.userBad v u (Co.userLv v user) user) = true))) : Co.changeE v u user = 20 := by
 unfold Co.changeE
 rw [if_pos]
 unfold Co.changeB
 rcases h with h | (h | h) | (h | h) <;> rw [h] <;> simp
theorem change_good {v u : Co.Lv} {user : List UInt8} (h1 : Co.numsBad v u (Co.userLv v user) = false) (h2 : v.kinds.any (Co.kindBad v u (Co.userLv v user)) = false) (h3 : u.kinds.any (Co.kindBad v u (Co.userLv v user)) = false) (h4 : v.users.any (Co.userBad v u (Co.userLv v user) user) = false) (h5 : u.users.any (Co.userBad v u (Co.userLv v user) user) = false) : Co.changeE v u user = 0 := by
 unfold Co.changeE Co.changeB
 rw [h1, h2, h3, h4, h5]
 rfl
abbrev Z7 : Array Value := #[.int .i64 0, .int .i64 0, .int .i64 0, .int .i64 0, .int .i64 0, .int .i64 0, .int .i64 0]
theorem size_lvX {ok : Nat → Prop} {w : World} {X : List Value} {v : Co.Lv} (h : LvV ok w X v) : (Tryz.prog.info? 28).map (·.size) = some X.toArray.size := by rw [size_lv, List.size_toArray, h.len]
theorem change_any (ok : Nat → Prop) (v u : Co.Lv) (XV XU : List Value) (user : List UInt8) (w : World) (hv : LvV ok w XV v) (hu : LvV ok w XU u) (hvs : v.users.length ≤ 1000000 ∧ v.kinds.length ≤ 1000000) (hus : u.users.length ≤ 1000000 ∧ u.kinds.length ≤ 1000000) :
  Calls Tryz.prog 23 #[.agg XV.toArray, .agg XU.toArray, .string (bstr user)] w fun e w' => e = .returned (.int .i64 (Co.changeE v u user)) ∧ Below w.heap.size w w' := by
 have hb1 := (Below.refl w.heap.size w).alloc (Nat.le_refl _) (.cells XV.toArray 28)
 have hb2 := hb1.alloc (by simp) (.cells XU.toArray 28)
 have hs1 : (w.alloc (.cells XV.toArray 28)).heap.size = w.heap.size + 1 := by simp
 have hk1 := (Blk.new w 28 XV.toArray).alloc (.cells XU.toArray 28)
 have hk2 := Blk.new (w.alloc (.cells XV.toArray 28)) 28 XU.toArray
 rw [hs1] at hk2
 have HB2 := hid hb2
 have HK1 := hid hk1
 have HK2 := hid hk2
 have HV := hid (hv.bel hb2)
 have HU := hid (hu.bel hb2)
 have HSV := hid (size_lvX hv)
 have HSU := hid (size_lvX hu)
 have HVS := hid hvs
 have HUS := hid hus
 obtain ⟨R, hR⟩ : ∃ R, R = Co.changeE v u user := ⟨_, rfl⟩
 have HR := hid hR
 rw [← hR]
 clear hv hu hvs hus hR hb1 hb2 hk1 hk2 hs1
 generalize hw2 : (w.alloc (.cells XV.toArray 28)).alloc (.cells XU.toArray 28) = w2 at *
 go_enter Tryz.func23, Tryz.ntmps23
 go_wp2_with fail
 go_step3
 go_wp2_with (refine wpList_load_row rfl 28 _ rfl w.heap.size rfl 28 XV.toArray (0, 0) _ HK1.out Tryz.underlying28 rfl HSV.out ?_)
 refine (lvuser_any ok v XV user w2 HV.out HVS.out.1).mono ?_
 rintro e w3 ⟨rfl, hb3⟩
 have hb4 := hb3.alloc hb3.size (.cells #[.int .i64 (Co.userLv v user)] 3)
 have HB4 := hid (HB2.out.trans (hb4.mono HB2.out.size))
 have HK14 := hid (HK1.out.below hb4 HK1.out.lt)
 have HK24 := hid (HK2.out.below hb4 HK2.out.lt)
 have HK34 := hid (Blk.new w3 3 #[.int .i64 (Co.userLv v user)])
 have HV4 := hid (HV.out.bel hb4)
 have HU4 := hid (HU.out.bel hb4)
 clear hb3 hb4
 generalize hown : Co.userLv v user = own at *
 generalize hw4 : w3.alloc (.cells #[.int .i64 own] 3) = w4 at *
 go_upto_region 3 with fail
 go_cut [9, 10] from 27 to 30 (fun pa pb wx => ∃ g9 g10 : Nat, pa = .pointer (some ⟨g9, 0, none⟩) ∧ pb = .pointer (some ⟨g10, 0, none⟩) ∧ Blk wx g9 100 (nums7 v) ∧ Blk wx g10 100 (nums7 u) ∧ Below w4.heap.size w4 wx)
 case first =>
  refine wp_region_noPanic ?_
  refine wp_region_held_drew (S := fun W => Below w4.heap.size w4 W) (by kernel_rfl) ((Below.refl _ _).drew) (fun hHeld => ?_)
  generalize hwd : w4.drew = wd at *
  have HBd := hid hHeld
  refine wpAnyH_take (i := 0) (oi := _) (v := _) rfl (by kernel_rfl) (by kernel_rfl) (by kernel_rfl) (fun _ _ _ h => h) (row_yields_u (X := XV.toArray) rfl Tryz.underlying28 HSV.out (fun W h => HK14.out.below h HK14.out.lt) (by kernel_rfl) _ rfl rfl) hHeld ?_
  (try simp only [Act.put, pk1, pk2, pk3, pk4, pk5, pk6])
  refine wpAnyH_take (i := 2) (oi := _) (v := _) rfl (by kernel_rfl) (by kernel_rfl) (by kernel_rfl) (fun _ _ _ h => h) (row_yields_u (X := XU.toArray) rfl Tryz.underlying28 HSU.out (fun W h => HK24.out.below h HK24.out.lt) (by kernel_rfl) _ rfl rfl) hHeld ?_
  (try simp only [Act.put, pk1, pk2, pk3, pk4, pk5, pk6])
  refine wpAnyH_ready (rs := [1, 4, 5]) (by kernel_rfl) (by simp) ?_
  refine AllReadyH.cons (o := _) rfl (fun K hK => ?_) (AllReadyH.cons (o := _) rfl (fun K hK => ?_) (AllReadyH.cons (o := _) rfl (fun K hK => ?_) (AllReadyH.nil)))
  ·go_simp
   go_at_call 56
   refine (numbers_any ok v XV wd (HV4.out.bel HBd.out)).mono ?_
   rintro e r5 ⟨rfl, hbr5⟩
   have HBr5 := hid (HBd.out.trans (hbr5.mono HBd.out.size))
   clear hbr5
   refine hK.out _ _ (HBr5.out) (fun hHeld2 => ?_)
   clear hK K hHeld
   have hHeld := hHeld2
   clear hHeld2
   (try simp only [Act.put, pk1, pk2, pk3, pk4, pk5, pk6])
   refine wpAnyH_ready (rs := [3, 4, 5]) (by kernel_rfl) (by simp) ?_
   refine AllReadyH.cons (o := _) rfl (fun K hK => ?_) (AllReadyH.cons (o := _) rfl (fun K hK => ?_) (AllReadyH.cons (o := _) rfl (fun K hK => ?_) (AllReadyH.nil)))
   ·go_simp
    go_at_call 56
    refine (numbers_any ok u XU r5 (HU4.out.bel HBr5.out)).mono ?_
    rintro e r6 ⟨rfl, hbr6⟩
    have HBr6 := hid (HBr5.out.trans (hbr6.mono HBr5.out.size))
    clear hbr6
    refine hK.out _ _ (HBr6.out) (fun hHeld2 => ?_)
    clear hK K hHeld
    have hHeld := hHeld2
    clear hHeld2
    (try simp only [Act.put, pk1, pk2, pk3, pk4, pk5, pk6])
    refine wpAnyH_ready (rs := [4, 5]) (by kernel_rfl) (by simp) ?_
    refine AllReadyH.cons (o := _) rfl (fun K hK => ?_) (AllReadyH.cons (o := _) rfl (fun K hK => ?_) (AllReadyH.nil))
    ·go_simp
     have HBr70 := hid (HBr6.out.alloc HBr6.out.size (.cells Z7 100))
     have HAr70 := hid (Blk.new r6 100 Z7)
     unfold Z7 at *
     generalize hwr7 : r6.alloc (.cells #[.int .i64 0, .int .i64 0, .int .i64 0, .int .i64 0, .int .i64 0, .int .i64 0, .int .i64 0] 100) = r7 at *
     have HBr7 := HBr70
     have HAr7 := HAr70
     refine hK.out _ _ (HBr7.out) (fun hHeld2 => ?_)
     clear hK K hHeld
     have hHeld := hHeld2
     clear hHeld2
     (try simp only [Act.put, pk1, pk2, pk3, pk4, pk5, pk6])
     refine wpAnyH_ready (rs := [5]) (by kernel_rfl) (by simp) ?_
     refine AllReadyH.cons (o := _) rfl (fun K hK => ?_) (AllReadyH.nil)
     ·go_simp
      have HBr80 := hid (HBr7.out.alloc HBr7.out.size (.cells Z7 100))
      have HNE : Hid (r6.heap.size ≠ r7.heap.size) := hid (by have := HAr7.out.lt; omega)
      have HCr80 := hid (Blk.new r7 100 Z7)
      have HAr80 := hid (HAr7.out.alloc (.cells Z7 100))
      unfold Z7 at *
      generalize hwr8 : r7.alloc (.cells #[.int .i64 0, .int .i64 0, .int .i64 0, .int .i64 0, .int .i64 0, .int .i64 0, .int .i64 0] 100) = r8 at *
      have HBr8 := HBr80
      have HAr8 := HAr80
      have HCr8 := HCr80
      refine hK.out _ _ (HBr8.out) (fun hHeld2 => ?_)
      clear hK K hHeld
      have hHeld := hHeld2
      clear hHeld2
      (try simp only [Act.put, pk1, pk2, pk3, pk4, pk5, pk6])
      refine wpAnyH_ready (rs := [6]) (by kernel_rfl) (by simp) ?_
      refine AllReadyH.cons (o := _) rfl (fun K hK => ?_) AllReadyH.nil
      rw [if_pos (by kernel_rfl)]
      refine wp_store_row 100 _ _ rfl (r6.heap.size) (nums7 v) rfl rfl 100 _ HAr8.out (by kernel_rfl) rfl (by simp [nums7, Value.oneCell']) ?_
      have HL9 : Hid (w4.heap.size ≤ r6.heap.size) := hid (HBr6.out.size)
      have HL10 : Hid (w4.heap.size ≤ r7.heap.size) := hid (HBr7.out.size)
      have HS6 := hid (below_setRow HBr8.out HL9.out (nums7 v))
      have HA6 : Hid (Blk (r8.setRow (r6.heap.size) (nums7 v)) (r6.heap.size) 100 (nums7 v)) := hid (setRow_heap _ _ _ _ _ _ HAr8.out)
      have HC6 : Hid (Blk (r8.setRow (r6.heap.size) (nums7 v)) (r7.heap.size) 100 _) := hid ((setRow_other _ _ _ _ HNE.out.symm).trans HCr8.out)
      refine hK.out _ _ (HS6.out) (fun hHeld2 => ?_)
      clear hK K hHeld
      have hHeld := hHeld2
      clear hHeld2
      (try simp only [Act.put, pk1, pk2, pk3, pk4, pk5, pk6])
      refine wpAnyH_ready (rs := [7]) (by kernel_rfl) (by simp) ?_
      refine AllReadyH.cons (o := _) rfl (fun K hK => ?_) AllReadyH.nil
      rw [if_pos (by kernel_rfl)]
      refine wp_store_row 100 _ _ rfl (r7.heap.size) (nums7 u) rfl rfl 100 _ HC6.out (by kernel_rfl) rfl (by simp [nums7, Value.oneCell']) ?_
      have HS7 := hid (below_setRow HS6.out HL10.out (nums7 u))
      have HC7 := hid (setRow_heap _ _ _ (nums7 u) _ _ HC6.out)
      have HA7 := hid ((setRow_other _ _ _ (nums7 u) HNE.out).trans HA6.out)
      refine hK.out _ _ (HS7.out) (fun hHeld2 => ?_)
      clear hK K hHeld
      have hHeld := hHeld2
      clear hHeld2
      (try simp only [Act.put, pk1, pk2, pk3, pk4, pk5, pk6])
      refine wpAnyH_done (by kernel_rfl) ?_ _
      refine NoPanic.normal ?_
      go_wp2_with fail
      go_meet
      exact ⟨_, _, rfl, rfl, HA7.out, HC7.out, HS7.out⟩
    ·go_simp
     have HBr110 := hid (HBr6.out.alloc HBr6.out.size (.cells Z7 100))
     have HCr110 := hid (Blk.new r6 100 Z7)
     unfold Z7 at *
     generalize hwr11 : r6.alloc (.cells #[.int .i64 0, .int .i64 0, .int .i64 0, .int .i64 0, .int .i64 0, .int .i64 0, .int .i64 0] 100) = r11 at *
     have HBr11 := HBr110
     have HCr11 := HCr110
     refine hK.out _ _ (HBr11.out) (fun hHeld2 => ?_)
     clear hK K hHeld
     have hHeld := hHeld2
     clear hHeld2
     (try simp only [Act.put, pk1, pk2, pk3, pk4, pk5, pk6])
     refine wpAnyH_ready (rs := [4]) (by kernel_rfl) (by simp) ?_
     refine AllReadyH.cons (o := _) rfl (fun K hK => ?_) (AllReadyH.nil)
     ·go_simp
      have HBr120 := hid (HBr11.out.alloc HBr11.out.size (.cells Z7 100))
      have HNE : Hid (r11.heap.size ≠ r6.heap.size) := hid (by have := HCr11.out.lt; omega)
      have HAr120 := hid (Blk.new r11 100 Z7)
      have HCr120 := hid (HCr11.out.alloc (.cells Z7 100))
      unfold Z7 at *
      generalize hwr12 : r11.alloc (.cells #[.int .i64 0, .int .i64 0, .int .i64 0, .int .i64 0, .int .i64 0, .int .i64 0, .int .i64 0] 100) = r12 at *
      have HBr12 := HBr120
      have HAr12 := HAr120
      have HCr12 := HCr120
      refine hK.out _ _ (HBr12.out) (fun hHeld2 => ?_)
      clear hK K hHeld
      have hHeld := hHeld2
      clear hHeld2
      (try simp only [Act.put, pk1, pk2, pk3, pk4, pk5, pk6])
      refine wpAnyH_ready (rs := [6]) (by kernel_rfl) (by simp) ?_
      refine AllReadyH.cons (o := _) rfl (fun K hK => ?_) AllReadyH.nil
      rw [if_pos (by kernel_rfl)]
      refine wp_store_row 100 _ _ rfl (r11.heap.size) (nums7 v) rfl rfl 100 _ HAr12.out (by kernel_rfl) rfl (by simp [nums7, Value.oneCell']) ?_
      have HL9 : Hid (w4.heap.size ≤ r11.heap.size) := hid (HBr11.out.size)
      have HL10 : Hid (w4.heap.size ≤ r6.heap.size) := hid (HBr6.out.size)
      have HS6 := hid (below_setRow HBr12.out HL9.out (nums7 v))
      have HA6 : Hid (Blk (r12.setRow (r11.heap.size) (nums7 v)) (r11.heap.size) 100 (nums7 v)) := hid (setRow_heap _ _ _ _ _ _ HAr12.out)
      have HC6 : Hid (Blk (r12.setRow (r11.heap.size) (nums7 v)) (r6.heap.size) 100 _) := hid ((setRow_other _ _ _ _ HNE.out.symm).trans HCr12.out)
      refine hK.out _ _ (HS6.out) (fun hHeld2 => ?_)
      clear hK K hHeld
      have hHeld := hHeld2
      clear hHeld2
      (try simp only [Act.put, pk1, pk2, pk3, pk4, pk5, pk6])
      refine wpAnyH_ready (rs := [7]) (by kernel_rfl) (by simp) ?_
      refine AllReadyH.cons (o := _) rfl (fun K hK => ?_) AllReadyH.nil
      rw [if_pos (by kernel_rfl)]
      refine wp_store_row 100 _ _ rfl (r6.heap.size) (nums7 u) rfl rfl 100 _ HC6.out (by kernel_rfl) rfl (by simp [nums7, Value.oneCell']) ?_
      have HS7 := hid (below_setRow HS6.out HL10.out (nums7 u))
      have HC7 := hid (setRow_heap _ _ _ (nums7 u) _ _ HC6.out)
      have HA7 := hid ((setRow_other _ _ _ (nums7 u) HNE.out).trans HA6.out)
      refine hK.out _ _ (HS7.out) (fun hHeld2 => ?_)
      clear hK K hHeld
      have hHeld := hHeld2
      clear hHeld2
      (try simp only [Act.put, pk1, pk2, pk3, pk4, pk5, pk6])
      refine wpAnyH_done (by kernel_rfl) ?_ _
      refine NoPanic.normal ?_
      go_wp2_with fail
      go_meet
      exact ⟨_, _, rfl, rfl, HA7.out, HC7.out, HS7.out⟩
   ·go_simp
    have HBr150 := hid (HBr5.out.alloc HBr5.out.size (.cells Z7 100))
    have HAr150 := hid (Blk.new r5 100 Z7)
    unfold Z7 at *
    generalize hwr15 : r5.alloc (.cells #[.int .i64 0, .int .i64 0, .int .i64 0, .int .i64 0, .int .i64 0, .int .i64 0, .int .i64 0] 100) = r15 at *
    have HBr15 := HBr150
    have HAr15 := HAr150
    refine hK.out _ _ (HBr15.out) (fun hHeld2 => ?_)
    clear hK K hHeld
    have hHeld := hHeld2
    clear hHeld2
    (try simp only [Act.put, pk1, pk2, pk3, pk4, pk5, pk6])
    refine wpAnyH_ready (rs := [3, 5]) (by kernel_rfl) (by simp) ?_
    refine AllReadyH.cons (o := _) rfl (fun K hK => ?_) (AllReadyH.cons (o := _) rfl (fun K hK => ?_) (AllReadyH.nil))
    ·go_simp
     go_at_call 56
     refine (numbers_any ok u XU r15 (HU4.out.bel HBr15.out)).mono ?_
     rintro e r16 ⟨rfl, hbr16⟩
     have HBr16 := hid (HBr15.out.trans (hbr16.mono HBr15.out.size))
     have HAr16 := hid (HAr15.out.below hbr16 HAr15.out.lt)
     clear hbr16
     refine hK.out _ _ (HBr16.out) (fun hHeld2 => ?_)
     clear hK K hHeld
     have hHeld := hHeld2
     clear hHeld2
     (try simp only [Act.put, pk1, pk2, pk3, pk4, pk5, pk6])
     refine wpAnyH_ready (rs := [5]) (by kernel_rfl) (by simp) ?_
     refine AllReadyH.cons (o := _) rfl (fun K hK => ?_) (AllReadyH.nil)
     ·go_simp
      have HBr170 := hid (HBr16.out.alloc HBr16.out.size (.cells Z7 100))
      have HNE : Hid (r5.heap.size ≠ r16.heap.size) := hid (by have := HAr16.out.lt; omega)
      have HCr170 := hid (Blk.new r16 100 Z7)
      have HAr170 := hid (HAr16.out.alloc (.cells Z7 100))
      unfold Z7 at *
      generalize hwr17 : r16.alloc (.cells #[.int .i64 0, .int .i64 0, .int .i64 0, .int .i64 0, .int .i64 0, .int .i64 0, .int .i64 0] 100) = r17 at *
      have HBr17 := HBr170
      have HAr17 := HAr170
      have HCr17 := HCr170
      refine hK.out _ _ (HBr17.out) (fun hHeld2 => ?_)
      clear hK K hHeld
      have hHeld := hHeld2
      clear hHeld2
      (try simp only [Act.put, pk1, pk2, pk3, pk4, pk5, pk6])
      refine wpAnyH_ready (rs := [6]) (by kernel_rfl) (by simp) ?_
      refine AllReadyH.cons (o := _) rfl (fun K hK => ?_) AllReadyH.nil
      rw [if_pos (by kernel_rfl)]
      refine wp_store_row 100 _ _ rfl (r5.heap.size) (nums7 v) rfl rfl 100 _ HAr17.out (by kernel_rfl) rfl (by simp [nums7, Value.oneCell']) ?_
      have HL9 : Hid (w4.heap.size ≤ r5.heap.size) := hid (HBr5.out.size)
      have HL10 : Hid (w4.heap.size ≤ r16.heap.size) := hid (HBr16.out.size)
      have HS6 := hid (below_setRow HBr17.out HL9.out (nums7 v))
      have HA6 : Hid (Blk (r17.setRow (r5.heap.size) (nums7 v)) (r5.heap.size) 100 (nums7 v)) := hid (setRow_heap _ _ _ _ _ _ HAr17.out)
      have HC6 : Hid (Blk (r17.setRow (r5.heap.size) (nums7 v)) (r16.heap.size) 100 _) := hid ((setRow_other _ _ _ _ HNE.out.symm).trans HCr17.out)
      refine hK.out _ _ (HS6.out) (fun hHeld2 => ?_)
      clear hK K hHeld
      have hHeld := hHeld2
      clear hHeld2
      (try simp only [Act.put, pk1, pk2, pk3, pk4, pk5, pk6])
      refine wpAnyH_ready (rs := [7]) (by kernel_rfl) (by simp) ?_
      refine AllReadyH.cons (o := _) rfl (fun K hK => ?_) AllReadyH.nil
      rw [if_pos (by kernel_rfl)]
      refine wp_store_row 100 _ _ rfl (r16.heap.size) (nums7 u) rfl rfl 100 _ HC6.out (by kernel_rfl) rfl (by simp [nums7, Value.oneCell']) ?_
      have HS7 := hid (below_setRow HS6.out HL10.out (nums7 u))
      have HC7 := hid (setRow_heap _ _ _ (nums7 u) _ _ HC6.out)
      have HA7 := hid ((setRow_other _ _ _ (nums7 u) HNE.out).trans HA6.out)
      refine hK.out _ _ (HS7.out) (fun hHeld2 => ?_)
      clear hK K hHeld
      have hHeld := hHeld2
      clear hHeld2
      (try simp only [Act.put, pk1, pk2, pk3, pk4, pk5, pk6])
      refine wpAnyH_done (by kernel_rfl) ?_ _
      refine NoPanic.normal ?_
      go_wp2_with fail
      go_meet
      exact ⟨_, _, rfl, rfl, HA7.out, HC7.out, HS7.out⟩
    ·go_simp
     have HBr200 := hid (HBr15.out.alloc HBr15.out.size (.cells Z7 100))
     have HNE : Hid (r5.heap.size ≠ r15.heap.size) := hid (by have := HAr15.out.lt; omega)
     have HCr200 := hid (Blk.new r15 100 Z7)
     have HAr200 := hid (HAr15.out.alloc (.cells Z7 100))
     unfold Z7 at *
     generalize hwr20 : r15.alloc (.cells #[.int .i64 0, .int .i64 0, .int .i64 0, .int .i64 0, .int .i64 0, .int .i64 0, .int .i64 0] 100) = r20 at *
     have HBr20 := HBr200
     have HAr20 := HAr200
     have HCr20 := HCr200
     refine hK.out _ _ (HBr20.out) (fun hHeld2 => ?_)
     clear hK K hHeld
     have hHeld := hHeld2
     clear hHeld2
     (try simp only [Act.put, pk1, pk2, pk3, pk4, pk5, pk6])
     refine wpAnyH_ready (rs := [3]) (by kernel_rfl) (by simp) ?_
     refine AllReadyH.cons (o := _) rfl (fun K hK => ?_) (AllReadyH.nil)
     ·go_simp
      go_at_call 56
      refine (numbers_any ok u XU r20 (HU4.out.bel HBr20.out)).mono ?_
      rintro e r21 ⟨rfl, hbr21⟩
      have HBr21 := hid (HBr20.out.trans (hbr21.mono HBr20.out.size))
      have HAr21 := hid (HAr20.out.below hbr21 HAr20.out.lt)
      have HCr21 := hid (HCr20.out.below hbr21 HCr20.out.lt)
      clear hbr21
      refine hK.out _ _ (HBr21.out) (fun hHeld2 => ?_)
      clear hK K hHeld
      have hHeld := hHeld2
      clear hHeld2
      (try simp only [Act.put, pk1, pk2, pk3, pk4, pk5, pk6])
      refine wpAnyH_ready (rs := [6]) (by kernel_rfl) (by simp) ?_
      refine AllReadyH.cons (o := _) rfl (fun K hK => ?_) AllReadyH.nil
      rw [if_pos (by kernel_rfl)]
      refine wp_store_row 100 _ _ rfl (r5.heap.size) (nums7 v) rfl rfl 100 _ HAr21.out (by kernel_rfl) rfl (by simp [nums7, Value.oneCell']) ?_
      have HL9 : Hid (w4.heap.size ≤ r5.heap.size) := hid (HBr5.out.size)
      have HL10 : Hid (w4.heap.size ≤ r15.heap.size) := hid (HBr15.out.size)
      have HS6 := hid (below_setRow HBr21.out HL9.out (nums7 v))
      have HA6 : Hid (Blk (r21.setRow (r5.heap.size) (nums7 v)) (r5.heap.size) 100 (nums7 v)) := hid (setRow_heap _ _ _ _ _ _ HAr21.out)
      have HC6 : Hid (Blk (r21.setRow (r5.heap.size) (nums7 v)) (r15.heap.size) 100 _) := hid ((setRow_other _ _ _ _ HNE.out.symm).trans HCr21.out)
      refine hK.out _ _ (HS6.out) (fun hHeld2 => ?_)
      clear hK K hHeld
      have hHeld := hHeld2
      clear hHeld2
      (try simp only [Act.put, pk1, pk2, pk3, pk4, pk5, pk6])
      refine wpAnyH_ready (rs := [7]) (by kernel_rfl) (by simp) ?_
      refine AllReadyH.cons (o := _) rfl (fun K hK => ?_) AllReadyH.nil
      rw [if_pos (by kernel_rfl)]
      refine wp_store_row 100 _ _ rfl (r15.heap.size) (nums7 u) rfl rfl 100 _ HC6.out (by kernel_rfl) rfl (by simp [nums7, Value.oneCell']) ?_
      have HS7 := hid (below_setRow HS6.out HL10.out (nums7 u))
      have HC7 := hid (setRow_heap _ _ _ (nums7 u) _ _ HC6.out)
      have HA7 := hid ((setRow_other _ _ _ (nums7 u) HNE.out).trans HA6.out)
      refine hK.out _ _ (HS7.out) (fun hHeld2 => ?_)
      clear hK K hHeld
      have hHeld := hHeld2
      clear hHeld2
      (try simp only [Act.put, pk1, pk2, pk3, pk4, pk5, pk6])
      refine wpAnyH_done (by kernel_rfl) ?_ _
      refine NoPanic.normal ?_
      go_wp2_with fail
      go_meet
      exact ⟨_, _, rfl, rfl, HA7.out, HC7.out, HS7.out⟩
   ·go_simp
    have HBr240 := hid (HBr5.out.alloc HBr5.out.size (.cells Z7 100))
    have HCr240 := hid (Blk.new r5 100 Z7)
    unfold Z7 at *
    generalize hwr24 : r5.alloc (.cells #[.int .i64 0, .int .i64 0, .int .i64 0, .int .i64 0, .int .i64 0, .int .i64 0, .int .i64 0] 100) = r24 at *
    have HBr24 := HBr240
    have HCr24 := HCr240
    refine hK.out _ _ (HBr24.out) (fun hHeld2 => ?_)
    clear hK K hHeld
    have hHeld := hHeld2
    clear hHeld2
    (try simp only [Act.put, pk1, pk2, pk3, pk4, pk5, pk6])
    refine wpAnyH_ready (rs := [3, 4]) (by kernel_rfl) (by simp) ?_
    refine AllReadyH.cons (o := _) rfl (fun K hK => ?_) (AllReadyH.cons (o := _) rfl (fun K hK => ?_) (AllReadyH.nil))
    ·go_simp
     go_at_call 56
     refine (numbers_any ok u XU r24 (HU4.out.bel HBr24.out)).mono ?_
     rintro e r25 ⟨rfl, hbr25⟩
     have HBr25 := hid (HBr24.out.trans (hbr25.mono HBr24.out.size))
     have HCr25 := hid (HCr24.out.below hbr25 HCr24.out.lt)
     clear hbr25
     refine hK.out _ _ (HBr25.out) (fun hHeld2 => ?_)
     clear hK K hHeld
     have hHeld := hHeld2
     clear hHeld2
     (try simp only [Act.put, pk1, pk2, pk3, pk4, pk5, pk6])
     refine wpAnyH_ready (rs := [4]) (by kernel_rfl) (by simp) ?_
     refine AllReadyH.cons (o := _) rfl (fun K hK => ?_) (AllReadyH.nil)
     ·go_simp
      have HBr260 := hid (HBr25.out.alloc HBr25.out.size (.cells Z7 100))
      have HNE : Hid (r25.heap.size ≠ r5.heap.size) := hid (by have := HCr25.out.lt; omega)
      have HAr260 := hid (Blk.new r25 100 Z7)
      have HCr260 := hid (HCr25.out.alloc (.cells Z7 100))
      unfold Z7 at *
      generalize hwr26 : r25.alloc (.cells #[.int .i64 0, .int .i64 0, .int .i64 0, .int .i64 0, .int .i64 0, .int .i64 0, .int .i64 0] 100) = r26 at *
      have HBr26 := HBr260
      have HAr26 := HAr260
      have HCr26 := HCr260
      refine hK.out _ _ (HBr26.out) (fun hHeld2 => ?_)
      clear hK K hHeld
      have hHeld := hHeld2
      clear hHeld2
      (try simp only [Act.put, pk1, pk2, pk3, pk4, pk5, pk6])
      refine wpAnyH_ready (rs := [6]) (by kernel_rfl) (by simp) ?_
      refine AllReadyH.cons (o := _) rfl (fun K hK => ?_) AllReadyH.nil
      rw [if_pos (by kernel_rfl)]
      refine wp_store_row 100 _ _ rfl (r25.heap.size) (nums7 v) rfl rfl 100 _ HAr26.out (by kernel_rfl) rfl (by simp [nums7, Value.oneCell']) ?_
      have HL9 : Hid (w4.heap.size ≤ r25.heap.size) := hid (HBr25.out.size)
      have HL10 : Hid (w4.heap.size ≤ r5.heap.size) := hid (HBr5.out.size)
      have HS6 := hid (below_setRow HBr26.out HL9.out (nums7 v))
      have HA6 : Hid (Blk (r26.setRow (r25.heap.size) (nums7 v)) (r25.heap.size) 100 (nums7 v)) := hid (setRow_heap _ _ _ _ _ _ HAr26.out)
      have HC6 : Hid (Blk (r26.setRow (r25.heap.size) (nums7 v)) (r5.heap.size) 100 _) := hid ((setRow_other _ _ _ _ HNE.out.symm).trans HCr26.out)
      refine hK.out _ _ (HS6.out) (fun hHeld2 => ?_)
      clear hK K hHeld
      have hHeld := hHeld2
      clear hHeld2
      (try simp only [Act.put, pk1, pk2, pk3, pk4, pk5, pk6])
      refine wpAnyH_ready (rs := [7]) (by kernel_rfl) (by simp) ?_
      refine AllReadyH.cons (o := _) rfl (fun K hK => ?_) AllReadyH.nil
      rw [if_pos (by kernel_rfl)]
      refine wp_store_row 100 _ _ rfl (r5.heap.size) (nums7 u) rfl rfl 100 _ HC6.out (by kernel_rfl) rfl (by simp [nums7, Value.oneCell']) ?_
      have HS7 := hid (below_setRow HS6.out HL10.out (nums7 u))
      have HC7 := hid (setRow_heap _ _ _ (nums7 u) _ _ HC6.out)
      have HA7 := hid ((setRow_other _ _ _ (nums7 u) HNE.out).trans HA6.out)
      refine hK.out _ _ (HS7.out) (fun hHeld2 => ?_)
      clear hK K hHeld
      have hHeld := hHeld2
      clear hHeld2
      (try simp only [Act.put, pk1, pk2, pk3, pk4, pk5, pk6])
      refine wpAnyH_done (by kernel_rfl) ?_ _
      refine NoPanic.normal ?_
      go_wp2_with fail
      go_meet
      exact ⟨_, _, rfl, rfl, HA7.out, HC7.out, HS7.out⟩
    ·go_simp
     have HBr290 := hid (HBr24.out.alloc HBr24.out.size (.cells Z7 100))
     have HNE : Hid (r24.heap.size ≠ r5.heap.size) := hid (by have := HCr24.out.lt; omega)
     have HAr290 := hid (Blk.new r24 100 Z7)
     have HCr290 := hid (HCr24.out.alloc (.cells Z7 100))
     unfold Z7 at *
     generalize hwr29 : r24.alloc (.cells #[.int .i64 0, .int .i64 0, .int .i64 0, .int .i64 0, .int .i64 0, .int .i64 0, .int .i64 0] 100) = r29 at *
     have HBr29 := HBr290
     have HAr29 := HAr290
     have HCr29 := HCr290
     refine hK.out _ _ (HBr29.out) (fun hHeld2 => ?_)
     clear hK K hHeld
     have hHeld := hHeld2
     clear hHeld2
     (try simp only [Act.put, pk1, pk2, pk3, pk4, pk5, pk6])
     refine wpAnyH_ready (rs := [3]) (by kernel_rfl) (by simp) ?_
     refine AllReadyH.cons (o := _) rfl (fun K hK => ?_) (AllReadyH.nil)
     ·go_simp
      go_at_call 56
      refine (numbers_any ok u XU r29 (HU4.out.bel HBr29.out)).mono ?_
      rintro e r30 ⟨rfl, hbr30⟩
      have HBr30 := hid (HBr29.out.trans (hbr30.mono HBr29.out.size))
      have HAr30 := hid (HAr29.out.below hbr30 HAr29.out.lt)
      have HCr30 := hid (HCr29.out.below hbr30 HCr29.out.lt)
      clear hbr30
      refine hK.out _ _ (HBr30.out) (fun hHeld2 => ?_)
      clear hK K hHeld
      have hHeld := hHeld2
      clear hHeld2
      (try simp only [Act.put, pk1, pk2, pk3, pk4, pk5, pk6])
      refine wpAnyH_ready (rs := [6]) (by kernel_rfl) (by simp) ?_
      refine AllReadyH.cons (o := _) rfl (fun K hK => ?_) AllReadyH.nil
      rw [if_pos (by kernel_rfl)]
      refine wp_store_row 100 _ _ rfl (r24.heap.size) (nums7 v) rfl rfl 100 _ HAr30.out (by kernel_rfl) rfl (by simp [nums7, Value.oneCell']) ?_
      have HL9 : Hid (w4.heap.size ≤ r24.heap.size) := hid (HBr24.out.size)
      have HL10 : Hid (w4.heap.size ≤ r5.heap.size) := hid (HBr5.out.size)
      have HS6 := hid (below_setRow HBr30.out HL9.out (nums7 v))
      have HA6 : Hid (Blk (r30.setRow (r24.heap.size) (nums7 v)) (r24.heap.size) 100 (nums7 v)) := hid (setRow_heap _ _ _ _ _ _ HAr30.out)
      have HC6 : Hid (Blk (r30.setRow (r24.heap.size) (nums7 v)) (r5.heap.size) 100 _) := hid ((setRow_other _ _ _ _ HNE.out.symm).trans HCr30.out)
      refine hK.out _ _ (HS6.out) (fun hHeld2 => ?_)
      clear hK K hHeld
      have hHeld := hHeld2
      clear hHeld2
      (try simp only [Act.put, pk1, pk2, pk3, pk4, pk5, pk6])
      refine wpAnyH_ready (rs := [7]) (by kernel_rfl) (by simp) ?_
      refine AllReadyH.cons (o := _) rfl (fun K hK => ?_) AllReadyH.nil
      rw [if_pos (by kernel_rfl)]
      refine wp_store_row 100 _ _ rfl (r5.heap.size) (nums7 u) rfl rfl 100 _ HC6.out (by kernel_rfl) rfl (by simp [nums7, Value.oneCell']) ?_
      have HS7 := hid (below_setRow HS6.out HL10.out (nums7 u))
      have HC7 := hid (setRow_heap _ _ _ (nums7 u) _ _ HC6.out)
      have HA7 := hid ((setRow_other _ _ _ (nums7 u) HNE.out).trans HA6.out)
      refine hK.out _ _ (HS7.out) (fun hHeld2 => ?_)
      clear hK K hHeld
      have hHeld := hHeld2
      clear hHeld2
      (try simp only [Act.put, pk1, pk2, pk3, pk4, pk5, pk6])
      refine wpAnyH_done (by kernel_rfl) ?_ _
      refine NoPanic.normal ?_
      go_wp2_with fail
      go_meet
      exact ⟨_, _, rfl, rfl, HA7.out, HC7.out, HS7.out⟩
  ·go_simp
   have HBr330 := hid (HBd.out.alloc HBd.out.size (.cells Z7 100))
   have HAr330 := hid (Blk.new wd 100 Z7)
   unfold Z7 at *
   generalize hwr33 : wd.alloc (.cells #[.int .i64 0, .int .i64 0, .int .i64 0, .int .i64 0, .int .i64 0, .int .i64 0, .int .i64 0] 100) = r33 at *
   have HBr33 := HBr330
   have HAr33 := HAr330
   refine hK.out _ _ (HBr33.out) (fun hHeld2 => ?_)
   clear hK K hHeld
   have hHeld := hHeld2
   clear hHeld2
   (try simp only [Act.put, pk1, pk2, pk3, pk4, pk5, pk6])
   refine wpAnyH_ready (rs := [1, 5]) (by kernel_rfl) (by simp) ?_
   refine AllReadyH.cons (o := _) rfl (fun K hK => ?_) (AllReadyH.cons (o := _) rfl (fun K hK => ?_) (AllReadyH.nil))
   ·go_simp
    go_at_call 56
    refine (numbers_any ok v XV r33 (HV4.out.bel HBr33.out)).mono ?_
    rintro e r34 ⟨rfl, hbr34⟩
    have HBr34 := hid (HBr33.out.trans (hbr34.mono HBr33.out.size))
    have HAr34 := hid (HAr33.out.below hbr34 HAr33.out.lt)
    clear hbr34
    refine hK.out _ _ (HBr34.out) (fun hHeld2 => ?_)
    clear hK K hHeld
    have hHeld := hHeld2
    clear hHeld2
    (try simp only [Act.put, pk1, pk2, pk3, pk4, pk5, pk6])
    refine wpAnyH_ready (rs := [3, 5]) (by kernel_rfl) (by simp) ?_
    refine AllReadyH.cons (o := _) rfl (fun K hK => ?_) (AllReadyH.cons (o := _) rfl (fun K hK => ?_) (AllReadyH.nil))
    ·go_simp
     go_at_call 56
     refine (numbers_any ok u XU r34 (HU4.out.bel HBr34.out)).mono ?_
     rintro e r35 ⟨rfl, hbr35⟩
     have HBr35 := hid (HBr34.out.trans (hbr35.mono HBr34.out.size))
     have HAr35 := hid (HAr34.out.below hbr35 HAr34.out.lt)
     clear hbr35
     refine hK.out _ _ (HBr35.out) (fun hHeld2 => ?_)
     clear hK K hHeld
     have hHeld := hHeld2
     clear hHeld2
     (try simp only [Act.put, pk1, pk2, pk3, pk4, pk5, pk6])
     refine wpAnyH_ready (rs := [5]) (by kernel_rfl) (by simp) ?_
     refine AllReadyH.cons (o := _) rfl (fun K hK => ?_) (AllReadyH.nil)
     ·go_simp
      have HBr360 := hid (HBr35.out.alloc HBr35.out.size (.cells Z7 100))
      have HNE : Hid (wd.heap.size ≠ r35.heap.size) := hid (by have := HAr35.out.lt; omega)
      have HCr360 := hid (Blk.new r35 100 Z7)
      have HAr360 := hid (HAr35.out.alloc (.cells Z7 100))
      unfold Z7 at *
      generalize hwr36 : r35.alloc (.cells #[.int .i64 0, .int .i64 0, .int .i64 0, .int .i64 0, .int .i64 0, .int .i64 0, .int .i64 0] 100) = r36 at *
      have HBr36 := HBr360
      have HAr36 := HAr360
      have HCr36 := HCr360
      refine hK.out _ _ (HBr36.out) (fun hHeld2 => ?_)
      clear hK K hHeld
      have hHeld := hHeld2
      clear hHeld2
      (try simp only [Act.put, pk1, pk2, pk3, pk4, pk5, pk6])
      refine wpAnyH_ready (rs := [6]) (by kernel_rfl) (by simp) ?_
      refine AllReadyH.cons (o := _) rfl (fun K hK => ?_) AllReadyH.nil
      rw [if_pos (by kernel_rfl)]
      refine wp_store_row 100 _ _ rfl (wd.heap.size) (nums7 v) rfl rfl 100 _ HAr36.out (by kernel_rfl) rfl (by simp [nums7, Value.oneCell']) ?_
      have HL9 : Hid (w4.heap.size ≤ wd.heap.size) := hid (HBd.out.size)
      have HL10 : Hid (w4.heap.size ≤ r35.heap.size) := hid (HBr35.out.size)
      have HS6 := hid (below_setRow HBr36.out HL9.out (nums7 v))
      have HA6 : Hid (Blk (r36.setRow (wd.heap.size) (nums7 v)) (wd.heap.size) 100 (nums7 v)) := hid (setRow_heap _ _ _ _ _ _ HAr36.out)
      have HC6 : Hid (Blk (r36.setRow (wd.heap.size) (nums7 v)) (r35.heap.size) 100 _) := hid ((setRow_other _ _ _ _ HNE.out.symm).trans HCr36.out)
      refine hK.out _ _ (HS6.out) (fun hHeld2 => ?_)
      clear hK K hHeld
      have hHeld := hHeld2
      clear hHeld2
      (try simp only [Act.put, pk1, pk2, pk3, pk4, pk5, pk6])
      refine wpAnyH_ready (rs := [7]) (by kernel_rfl) (by simp) ?_
      refine AllReadyH.cons (o := _) rfl (fun K hK => ?_) AllReadyH.nil
      rw [if_pos (by kernel_rfl)]
      refine wp_store_row 100 _ _ rfl (r35.heap.size) (nums7 u) rfl rfl 100 _ HC6.out (by kernel_rfl) rfl (by simp [nums7, Value.oneCell']) ?_
      have HS7 := hid (below_setRow HS6.out HL10.out (nums7 u))
      have HC7 := hid (setRow_heap _ _ _ (nums7 u) _ _ HC6.out)
      have HA7 := hid ((setRow_other _ _ _ (nums7 u) HNE.out).trans HA6.out)
      refine hK.out _ _ (HS7.out) (fun hHeld2 => ?_)
      clear hK K hHeld
      have hHeld := hHeld2
      clear hHeld2
      (try simp only [Act.put, pk1, pk2, pk3, pk4, pk5, pk6])
      refine wpAnyH_done (by kernel_rfl) ?_ _
      refine NoPanic.normal ?_
      go_wp2_with fail
      go_meet
      exact ⟨_, _, rfl, rfl, HA7.out, HC7.out, HS7.out⟩
    ·go_simp
     have HBr390 := hid (HBr34.out.alloc HBr34.out.size (.cells Z7 100))
     have HNE : Hid (wd.heap.size ≠ r34.heap.size) := hid (by have := HAr34.out.lt; omega)
     have HCr390 := hid (Blk.new r34 100 Z7)
     have HAr390 := hid (HAr34.out.alloc (.cells Z7 100))
     unfold Z7 at *
     generalize hwr39 : r34.alloc (.cells #[.int .i64 0, .int .i64 0, .int .i64 0, .int .i64 0, .int .i64 0, .int .i64 0, .int .i64 0] 100) = r39 at *
     have HBr39 := HBr390
     have HAr39 := HAr390
     have HCr39 := HCr390
     refine hK.out _ _ (HBr39.out) (fun hHeld2 => ?_)
     clear hK K hHeld
     have hHeld := hHeld2
     clear hHeld2
     (try simp only [Act.put, pk1, pk2, pk3, pk4, pk5, pk6])
     refine wpAnyH_ready (rs := [3]) (by kernel_rfl) (by simp) ?_
     refine AllReadyH.cons (o := _) rfl (fun K hK => ?_) (AllReadyH.nil)
     ·go_simp
      go_at_call 56
      refine (numbers_any ok u XU r39 (HU4.out.bel HBr39.out)).mono ?_
      rintro e r40 ⟨rfl, hbr40⟩
      have HBr40 := hid (HBr39.out.trans (hbr40.mono HBr39.out.size))
      have HAr40 := hid (HAr39.out.below hbr40 HAr39.out.lt)
      have HCr40 := hid (HCr39.out.below hbr40 HCr39.out.lt)
      clear hbr40
      refine hK.out _ _ (HBr40.out) (fun hHeld2 => ?_)
      clear hK K hHeld
      have hHeld := hHeld2
      clear hHeld2
      (try simp only [Act.put, pk1, pk2, pk3, pk4, pk5, pk6])
      refine wpAnyH_ready (rs := [6]) (by kernel_rfl) (by simp) ?_
      refine AllReadyH.cons (o := _) rfl (fun K hK => ?_) AllReadyH.nil
      rw [if_pos (by kernel_rfl)]
      refine wp_store_row 100 _ _ rfl (wd.heap.size) (nums7 v) rfl rfl 100 _ HAr40.out (by kernel_rfl) rfl (by simp [nums7, Value.oneCell']) ?_
      have HL9 : Hid (w4.heap.size ≤ wd.heap.size) := hid (HBd.out.size)
      have HL10 : Hid (w4.heap.size ≤ r34.heap.size) := hid (HBr34.out.size)
      have HS6 := hid (below_setRow HBr40.out HL9.out (nums7 v))
      have HA6 : Hid (Blk (r40.setRow (wd.heap.size) (nums7 v)) (wd.heap.size) 100 (nums7 v)) := hid (setRow_heap _ _ _ _ _ _ HAr40.out)
      have HC6 : Hid (Blk (r40.setRow (wd.heap.size) (nums7 v)) (r34.heap.size) 100 _) := hid ((setRow_other _ _ _ _ HNE.out.symm).trans HCr40.out)
      refine hK.out _ _ (HS6.out) (fun hHeld2 => ?_)
      clear hK K hHeld
      have hHeld := hHeld2
      clear hHeld2
      (try simp only [Act.put, pk1, pk2, pk3, pk4, pk5, pk6])
      refine wpAnyH_ready (rs := [7]) (by kernel_rfl) (by simp) ?_
      refine AllReadyH.cons (o := _) rfl (fun K hK => ?_) AllReadyH.nil
      rw [if_pos (by kernel_rfl)]
      refine wp_store_row 100 _ _ rfl (r34.heap.size) (nums7 u) rfl rfl 100 _ HC6.out (by kernel_rfl) rfl (by simp [nums7, Value.oneCell']) ?_
      have HS7 := hid (below_setRow HS6.out HL10.out (nums7 u))
      have HC7 := hid (setRow_heap _ _ _ (nums7 u) _ _ HC6.out)
      have HA7 := hid ((setRow_other _ _ _ (nums7 u) HNE.out).trans HA6.out)
      refine hK.out _ _ (HS7.out) (fun hHeld2 => ?_)
      clear hK K hHeld
      have hHeld := hHeld2
      clear hHeld2
      (try simp only [Act.put, pk1, pk2, pk3, pk4, pk5, pk6])
      refine wpAnyH_done (by kernel_rfl) ?_ _
      refine NoPanic.normal ?_
      go_wp2_with fail
      go_meet
      exact ⟨_, _, rfl, rfl, HA7.out, HC7.out, HS7.out⟩
   ·go_simp
    have HBr430 := hid (HBr33.out.alloc HBr33.out.size (.cells Z7 100))
    have HNE : Hid (wd.heap.size ≠ r33.heap.size) := hid (by have := HAr33.out.lt; omega)
    have HCr430 := hid (Blk.new r33 100 Z7)
    have HAr430 := hid (HAr33.out.alloc (.cells Z7 100))
    unfold Z7 at *
    generalize hwr43 : r33.alloc (.cells #[.int .i64 0, .int .i64 0, .int .i64 0, .int .i64 0, .int .i64 0, .int .i64 0, .int .i64 0] 100) = r43 at *
    have HBr43 := HBr430
    have HAr43 := HAr430
    have HCr43 := HCr430
    refine hK.out _ _ (HBr43.out) (fun hHeld2 => ?_)
    clear hK K hHeld
    have hHeld := hHeld2
    clear hHeld2
    (try simp only [Act.put, pk1, pk2, pk3, pk4, pk5, pk6])
    refine wpAnyH_ready (rs := [1]) (by kernel_rfl) (by simp) ?_
    refine AllReadyH.cons (o := _) rfl (fun K hK => ?_) (AllReadyH.nil)
    ·go_simp
     go_at_call 56
     refine (numbers_any ok v XV r43 (HV4.out.bel HBr43.out)).mono ?_
     rintro e r44 ⟨rfl, hbr44⟩
     have HBr44 := hid (HBr43.out.trans (hbr44.mono HBr43.out.size))
     have HAr44 := hid (HAr43.out.below hbr44 HAr43.out.lt)
     have HCr44 := hid (HCr43.out.below hbr44 HCr43.out.lt)
     clear hbr44
     refine hK.out _ _ (HBr44.out) (fun hHeld2 => ?_)
     clear hK K hHeld
     have hHeld := hHeld2
     clear hHeld2
     (try simp only [Act.put, pk1, pk2, pk3, pk4, pk5, pk6])
     refine wpAnyH_ready (rs := [3]) (by kernel_rfl) (by simp) ?_
     refine AllReadyH.cons (o := _) rfl (fun K hK => ?_) (AllReadyH.nil)
     ·go_simp
      go_at_call 56
      refine (numbers_any ok u XU r44 (HU4.out.bel HBr44.out)).mono ?_
      rintro e r45 ⟨rfl, hbr45⟩
      have HBr45 := hid (HBr44.out.trans (hbr45.mono HBr44.out.size))
      have HAr45 := hid (HAr44.out.below hbr45 HAr44.out.lt)
      have HCr45 := hid (HCr44.out.below hbr45 HCr44.out.lt)
      clear hbr45
      refine hK.out _ _ (HBr45.out) (fun hHeld2 => ?_)
      clear hK K hHeld
      have hHeld := hHeld2
      clear hHeld2
      (try simp only [Act.put, pk1, pk2, pk3, pk4, pk5, pk6])
      refine wpAnyH_ready (rs := [6]) (by kernel_rfl) (by simp) ?_
      refine AllReadyH.cons (o := _) rfl (fun K hK => ?_) AllReadyH.nil
      rw [if_pos (by kernel_rfl)]
      refine wp_store_row 100 _ _ rfl (wd.heap.size) (nums7 v) rfl rfl 100 _ HAr45.out (by kernel_rfl) rfl (by simp [nums7, Value.oneCell']) ?_
      have HL9 : Hid (w4.heap.size ≤ wd.heap.size) := hid (HBd.out.size)
      have HL10 : Hid (w4.heap.size ≤ r33.heap.size) := hid (HBr33.out.size)
      have HS6 := hid (below_setRow HBr45.out HL9.out (nums7 v))
      have HA6 : Hid (Blk (r45.setRow (wd.heap.size) (nums7 v)) (wd.heap.size) 100 (nums7 v)) := hid (setRow_heap _ _ _ _ _ _ HAr45.out)
      have HC6 : Hid (Blk (r45.setRow (wd.heap.size) (nums7 v)) (r33.heap.size) 100 _) := hid ((setRow_other _ _ _ _ HNE.out.symm).trans HCr45.out)
      refine hK.out _ _ (HS6.out) (fun hHeld2 => ?_)
      clear hK K hHeld
      have hHeld := hHeld2
      clear hHeld2
      (try simp only [Act.put, pk1, pk2, pk3, pk4, pk5, pk6])
      refine wpAnyH_ready (rs := [7]) (by kernel_rfl) (by simp) ?_
      refine AllReadyH.cons (o := _) rfl (fun K hK => ?_) AllReadyH.nil
      rw [if_pos (by kernel_rfl)]
      refine wp_store_row 100 _ _ rfl (r33.heap.size) (nums7 u) rfl rfl 100 _ HC6.out (by kernel_rfl) rfl (by simp [nums7, Value.oneCell']) ?_
      have HS7 := hid (below_setRow HS6.out HL10.out (nums7 u))
      have HC7 := hid (setRow_heap _ _ _ (nums7 u) _ _ HC6.out)
      have HA7 := hid ((setRow_other _ _ _ (nums7 u) HNE.out).trans HA6.out)
      refine hK.out _ _ (HS7.out) (fun hHeld2 => ?_)
      clear hK K hHeld
      have hHeld := hHeld2
      clear hHeld2
      (try simp only [Act.put, pk1, pk2, pk3, pk4, pk5, pk6])
      refine wpAnyH_done (by kernel_rfl) ?_ _
      refine NoPanic.normal ?_
      go_wp2_with fail
      go_meet
      exact ⟨_, _, rfl, rfl, HA7.out, HC7.out, HS7.out⟩
  ·go_simp
   have HBr480 := hid (HBd.out.alloc HBd.out.size (.cells Z7 100))
   have HCr480 := hid (Blk.new wd 100 Z7)
   unfold Z7 at *
   generalize hwr48 : wd.alloc (.cells #[.int .i64 0, .int .i64 0, .int .i64 0, .int .i64 0, .int .i64 0, .int .i64 0, .int .i64 0] 100) = r48 at *
   have HBr48 := HBr480
   have HCr48 := HCr480
   refine hK.out _ _ (HBr48.out) (fun hHeld2 => ?_)
   clear hK K hHeld
   have hHeld := hHeld2
   clear hHeld2
   (try simp only [Act.put, pk1, pk2, pk3, pk4, pk5, pk6])
   refine wpAnyH_ready (rs := [1, 4]) (by kernel_rfl) (by simp) ?_
   refine AllReadyH.cons (o := _) rfl (fun K hK => ?_) (AllReadyH.cons (o := _) rfl (fun K hK => ?_) (AllReadyH.nil))
   ·go_simp
    go_at_call 56
    refine (numbers_any ok v XV r48 (HV4.out.bel HBr48.out)).mono ?_
    rintro e r49 ⟨rfl, hbr49⟩
    have HBr49 := hid (HBr48.out.trans (hbr49.mono HBr48.out.size))
    have HCr49 := hid (HCr48.out.below hbr49 HCr48.out.lt)
    clear hbr49
    refine hK.out _ _ (HBr49.out) (fun hHeld2 => ?_)
    clear hK K hHeld
    have hHeld := hHeld2
    clear hHeld2
    (try simp only [Act.put, pk1, pk2, pk3, pk4, pk5, pk6])
    refine wpAnyH_ready (rs := [3, 4]) (by kernel_rfl) (by simp) ?_
    refine AllReadyH.cons (o := _) rfl (fun K hK => ?_) (AllReadyH.cons (o := _) rfl (fun K hK => ?_) (AllReadyH.nil))
    ·go_simp
     go_at_call 56
     refine (numbers_any ok u XU r49 (HU4.out.bel HBr49.out)).mono ?_
     rintro e r50 ⟨rfl, hbr50⟩
     have HBr50 := hid (HBr49.out.trans (hbr50.mono HBr49.out.size))
     have HCr50 := hid (HCr49.out.below hbr50 HCr49.out.lt)
     clear hbr50
     refine hK.out _ _ (HBr50.out) (fun hHeld2 => ?_)
     clear hK K hHeld
     have hHeld := hHeld2
     clear hHeld2
     (try simp only [Act.put, pk1, pk2, pk3, pk4, pk5, pk6])
     refine wpAnyH_ready (rs := [4]) (by kernel_rfl) (by simp) ?_
     refine AllReadyH.cons (o := _) rfl (fun K hK => ?_) (AllReadyH.nil)
     ·go_simp
      have HBr510 := hid (HBr50.out.alloc HBr50.out.size (.cells Z7 100))
      have HNE : Hid (r50.heap.size ≠ wd.heap.size) := hid (by have := HCr50.out.lt; omega)
      have HAr510 := hid (Blk.new r50 100 Z7)
      have HCr510 := hid (HCr50.out.alloc (.cells Z7 100))
      unfold Z7 at *
      generalize hwr51 : r50.alloc (.cells #[.int .i64 0, .int .i64 0, .int .i64 0, .int .i64 0, .int .i64 0, .int .i64 0, .int .i64 0] 100) = r51 at *
      have HBr51 := HBr510
      have HAr51 := HAr510
      have HCr51 := HCr510
      refine hK.out _ _ (HBr51.out) (fun hHeld2 => ?_)
      clear hK K hHeld
      have hHeld := hHeld2
      clear hHeld2
      (try simp only [Act.put, pk1, pk2, pk3, pk4, pk5, pk6])
      refine wpAnyH_ready (rs := [6]) (by kernel_rfl) (by simp) ?_
      refine AllReadyH.cons (o := _) rfl (fun K hK => ?_) AllReadyH.nil
      rw [if_pos (by kernel_rfl)]
      refine wp_store_row 100 _ _ rfl (r50.heap.size) (nums7 v) rfl rfl 100 _ HAr51.out (by kernel_rfl) rfl (by simp [nums7, Value.oneCell']) ?_
      have HL9 : Hid (w4.heap.size ≤ r50.heap.size) := hid (HBr50.out.size)
      have HL10 : Hid (w4.heap.size ≤ wd.heap.size) := hid (HBd.out.size)
      have HS6 := hid (below_setRow HBr51.out HL9.out (nums7 v))
      have HA6 : Hid (Blk (r51.setRow (r50.heap.size) (nums7 v)) (r50.heap.size) 100 (nums7 v)) := hid (setRow_heap _ _ _ _ _ _ HAr51.out)
      have HC6 : Hid (Blk (r51.setRow (r50.heap.size) (nums7 v)) (wd.heap.size) 100 _) := hid ((setRow_other _ _ _ _ HNE.out.symm).trans HCr51.out)
      refine hK.out _ _ (HS6.out) (fun hHeld2 => ?_)
      clear hK K hHeld
      have hHeld := hHeld2
      clear hHeld2
      (try simp only [Act.put, pk1, pk2, pk3, pk4, pk5, pk6])
      refine wpAnyH_ready (rs := [7]) (by kernel_rfl) (by simp) ?_
      refine AllReadyH.cons (o := _) rfl (fun K hK => ?_) AllReadyH.nil
      rw [if_pos (by kernel_rfl)]
      refine wp_store_row 100 _ _ rfl (wd.heap.size) (nums7 u) rfl rfl 100 _ HC6.out (by kernel_rfl) rfl (by simp [nums7, Value.oneCell']) ?_
      have HS7 := hid (below_setRow HS6.out HL10.out (nums7 u))
      have HC7 := hid (setRow_heap _ _ _ (nums7 u) _ _ HC6.out)
      have HA7 := hid ((setRow_other _ _ _ (nums7 u) HNE.out).trans HA6.out)
      refine hK.out _ _ (HS7.out) (fun hHeld2 => ?_)
      clear hK K hHeld
      have hHeld := hHeld2
      clear hHeld2
      (try simp only [Act.put, pk1, pk2, pk3, pk4, pk5, pk6])
      refine wpAnyH_done (by kernel_rfl) ?_ _
      refine NoPanic.normal ?_
      go_wp2_with fail
      go_meet
      exact ⟨_, _, rfl, rfl, HA7.out, HC7.out, HS7.out⟩
    ·go_simp
     have HBr540 := hid (HBr49.out.alloc HBr49.out.size (.cells Z7 100))
     have HNE : Hid (r49.heap.size ≠ wd.heap.size) := hid (by have := HCr49.out.lt; omega)
     have HAr540 := hid (Blk.new r49 100 Z7)
     have HCr540 := hid (HCr49.out.alloc (.cells Z7 100))
     unfold Z7 at *
     generalize hwr54 : r49.alloc (.cells #[.int .i64 0, .int .i64 0, .int .i64 0, .int .i64 0, .int .i64 0, .int .i64 0, .int .i64 0] 100) = r54 at *
     have HBr54 := HBr540
     have HAr54 := HAr540
     have HCr54 := HCr540
     refine hK.out _ _ (HBr54.out) (fun hHeld2 => ?_)
     clear hK K hHeld
     have hHeld := hHeld2
     clear hHeld2
     (try simp only [Act.put, pk1, pk2, pk3, pk4, pk5, pk6])
     refine wpAnyH_ready (rs := [3]) (by kernel_rfl) (by simp) ?_
     refine AllReadyH.cons (o := _) rfl (fun K hK => ?_) (AllReadyH.nil)
     ·go_simp
      go_at_call 56
      refine (numbers_any ok u XU r54 (HU4.out.bel HBr54.out)).mono ?_
      rintro e r55 ⟨rfl, hbr55⟩
      have HBr55 := hid (HBr54.out.trans (hbr55.mono HBr54.out.size))
      have HAr55 := hid (HAr54.out.below hbr55 HAr54.out.lt)
      have HCr55 := hid (HCr54.out.below hbr55 HCr54.out.lt)
      clear hbr55
      refine hK.out _ _ (HBr55.out) (fun hHeld2 => ?_)
      clear hK K hHeld
      have hHeld := hHeld2
      clear hHeld2
      (try simp only [Act.put, pk1, pk2, pk3, pk4, pk5, pk6])
      refine wpAnyH_ready (rs := [6]) (by kernel_rfl) (by simp) ?_
      refine AllReadyH.cons (o := _) rfl (fun K hK => ?_) AllReadyH.nil
      rw [if_pos (by kernel_rfl)]
      refine wp_store_row 100 _ _ rfl (r49.heap.size) (nums7 v) rfl rfl 100 _ HAr55.out (by kernel_rfl) rfl (by simp [nums7, Value.oneCell']) ?_
      have HL9 : Hid (w4.heap.size ≤ r49.heap.size) := hid (HBr49.out.size)
      have HL10 : Hid (w4.heap.size ≤ wd.heap.size) := hid (HBd.out.size)
      have HS6 := hid (below_setRow HBr55.out HL9.out (nums7 v))
      have HA6 : Hid (Blk (r55.setRow (r49.heap.size) (nums7 v)) (r49.heap.size) 100 (nums7 v)) := hid (setRow_heap _ _ _ _ _ _ HAr55.out)
      have HC6 : Hid (Blk (r55.setRow (r49.heap.size) (nums7 v)) (wd.heap.size) 100 _) := hid ((setRow_other _ _ _ _ HNE.out.symm).trans HCr55.out)
      refine hK.out _ _ (HS6.out) (fun hHeld2 => ?_)
      clear hK K hHeld
      have hHeld := hHeld2
      clear hHeld2
      (try simp only [Act.put, pk1, pk2, pk3, pk4, pk5, pk6])
      refine wpAnyH_ready (rs := [7]) (by kernel_rfl) (by simp) ?_
      refine AllReadyH.cons (o := _) rfl (fun K hK => ?_) AllReadyH.nil
      rw [if_pos (by kernel_rfl)]
      refine wp_store_row 100 _ _ rfl (wd.heap.size) (nums7 u) rfl rfl 100 _ HC6.out (by kernel_rfl) rfl (by simp [nums7, Value.oneCell']) ?_
      have HS7 := hid (below_setRow HS6.out HL10.out (nums7 u))
      have HC7 := hid (setRow_heap _ _ _ (nums7 u) _ _ HC6.out)
      have HA7 := hid ((setRow_other _ _ _ (nums7 u) HNE.out).trans HA6.out)
      refine hK.out _ _ (HS7.out) (fun hHeld2 => ?_)
      clear hK K hHeld
      have hHeld := hHeld2
      clear hHeld2
      (try simp only [Act.put, pk1, pk2, pk3, pk4, pk5, pk6])
      refine wpAnyH_done (by kernel_rfl) ?_ _
      refine NoPanic.normal ?_
      go_wp2_with fail
      go_meet
      exact ⟨_, _, rfl, rfl, HA7.out, HC7.out, HS7.out⟩
   ·go_simp
    have HBr580 := hid (HBr48.out.alloc HBr48.out.size (.cells Z7 100))
    have HNE : Hid (r48.heap.size ≠ wd.heap.size) := hid (by have := HCr48.out.lt; omega)
    have HAr580 := hid (Blk.new r48 100 Z7)
    have HCr580 := hid (HCr48.out.alloc (.cells Z7 100))
    unfold Z7 at *
    generalize hwr58 : r48.alloc (.cells #[.int .i64 0, .int .i64 0, .int .i64 0, .int .i64 0, .int .i64 0, .int .i64 0, .int .i64 0] 100) = r58 at *
    have HBr58 := HBr580
    have HAr58 := HAr580
    have HCr58 := HCr580
    refine hK.out _ _ (HBr58.out) (fun hHeld2 => ?_)
    clear hK K hHeld
    have hHeld := hHeld2
    clear hHeld2
    (try simp only [Act.put, pk1, pk2, pk3, pk4, pk5, pk6])
    refine wpAnyH_ready (rs := [1]) (by kernel_rfl) (by simp) ?_
    refine AllReadyH.cons (o := _) rfl (fun K hK => ?_) (AllReadyH.nil)
    ·go_simp
     go_at_call 56
     refine (numbers_any ok v XV r58 (HV4.out.bel HBr58.out)).mono ?_
     rintro e r59 ⟨rfl, hbr59⟩
     have HBr59 := hid (HBr58.out.trans (hbr59.mono HBr58.out.size))
     have HAr59 := hid (HAr58.out.below hbr59 HAr58.out.lt)
     have HCr59 := hid (HCr58.out.below hbr59 HCr58.out.lt)
     clear hbr59
     refine hK.out _ _ (HBr59.out) (fun hHeld2 => ?_)
     clear hK K hHeld
     have hHeld := hHeld2
     clear hHeld2
     (try simp only [Act.put, pk1, pk2, pk3, pk4, pk5, pk6])
     refine wpAnyH_ready (rs := [3]) (by kernel_rfl) (by simp) ?_
     refine AllReadyH.cons (o := _) rfl (fun K hK => ?_) (AllReadyH.nil)
     ·go_simp
      go_at_call 56
      refine (numbers_any ok u XU r59 (HU4.out.bel HBr59.out)).mono ?_
      rintro e r60 ⟨rfl, hbr60⟩
      have HBr60 := hid (HBr59.out.trans (hbr60.mono HBr59.out.size))
      have HAr60 := hid (HAr59.out.below hbr60 HAr59.out.lt)
      have HCr60 := hid (HCr59.out.below hbr60 HCr59.out.lt)
      clear hbr60
      refine hK.out _ _ (HBr60.out) (fun hHeld2 => ?_)
      clear hK K hHeld
      have hHeld := hHeld2
      clear hHeld2
      (try simp only [Act.put, pk1, pk2, pk3, pk4, pk5, pk6])
      refine wpAnyH_ready (rs := [6]) (by kernel_rfl) (by simp) ?_
      refine AllReadyH.cons (o := _) rfl (fun K hK => ?_) AllReadyH.nil
      rw [if_pos (by kernel_rfl)]
      refine wp_store_row 100 _ _ rfl (r48.heap.size) (nums7 v) rfl rfl 100 _ HAr60.out (by kernel_rfl) rfl (by simp [nums7, Value.oneCell']) ?_
      have HL9 : Hid (w4.heap.size ≤ r48.heap.size) := hid (HBr48.out.size)
      have HL10 : Hid (w4.heap.size ≤ wd.heap.size) := hid (HBd.out.size)
      have HS6 := hid (below_setRow HBr60.out HL9.out (nums7 v))
      have HA6 : Hid (Blk (r60.setRow (r48.heap.size) (nums7 v)) (r48.heap.size) 100 (nums7 v)) := hid (setRow_heap _ _ _ _ _ _ HAr60.out)
      have HC6 : Hid (Blk (r60.setRow (r48.heap.size) (nums7 v)) (wd.heap.size) 100 _) := hid ((setRow_other _ _ _ _ HNE.out.symm).trans HCr60.out)
      refine hK.out _ _ (HS6.out) (fun hHeld2 => ?_)
      clear hK K hHeld
      have hHeld := hHeld2
      clear hHeld2
      (try simp only [Act.put, pk1, pk2, pk3, pk4, pk5, pk6])
      refine wpAnyH_ready (rs := [7]) (by kernel_rfl) (by simp) ?_
      refine AllReadyH.cons (o := _) rfl (fun K hK => ?_) AllReadyH.nil
      rw [if_pos (by kernel_rfl)]
      refine wp_store_row 100 _ _ rfl (wd.heap.size) (nums7 u) rfl rfl 100 _ HC6.out (by kernel_rfl) rfl (by simp [nums7, Value.oneCell']) ?_
      have HS7 := hid (below_setRow HS6.out HL10.out (nums7 u))
      have HC7 := hid (setRow_heap _ _ _ (nums7 u) _ _ HC6.out)
      have HA7 := hid ((setRow_other _ _ _ (nums7 u) HNE.out).trans HA6.out)
      refine hK.out _ _ (HS7.out) (fun hHeld2 => ?_)
      clear hK K hHeld
      have hHeld := hHeld2
      clear hHeld2
      (try simp only [Act.put, pk1, pk2, pk3, pk4, pk5, pk6])
      refine wpAnyH_done (by kernel_rfl) ?_ _
      refine NoPanic.normal ?_
      go_wp2_with fail
      go_meet
      exact ⟨_, _, rfl, rfl, HA7.out, HC7.out, HS7.out⟩
 case rest =>
  obtain ⟨g9, g10, rfl, rfl, h9, h10, hbx⟩ := hcut
  have HB5 := hid (HB4.out.trans (hbx.mono HB4.out.size))
  have HK15 := hid (HK14.out.below hbx HK14.out.lt)
  have HK25 := hid (HK24.out.below hbx HK24.out.lt)
  have HK35 := hid (HK34.out.below hbx HK34.out.lt)
  have HV5 := hid (HV4.out.bel hbx)
  have HU5 := hid (HU4.out.bel hbx)
  have H9 := hid h9
  have H10 := hid h10
  clear h9 h10 hbx hw4
  have HNB := hid (nums_bad v u own)
  go_wp2_with fail
  go_loopw [31] (fun ix wr => ∃ i : Nat, i ≤ 7 ∧ ix = .int .i64 (i : Int) ∧ Hid (Co.numsBad v u own = badFrom v u own i) ∧ Below wc.heap.size wc wr) (fun ix _ => 7 - (RowKit.intOf ix).toNat)
  case atStart => exact ⟨0, Nat.zero_le _, rfl, HNB, Below.refl _ _⟩
  case round =>
   obtain ⟨i, hi, rfl, HBF, hb⟩ := hrel
   have HB6 := hid hb
   clear hb
   obtain ⟨w6, hw6⟩ : ∃ x, x = wr := ⟨_, rfl⟩
   subst hw6
   by_cases hlt : i < 7
   ·obtain ⟨p, hp⟩ : ∃ p, (numL v)[i]? = some p := ⟨_, List.getElem?_eq_getElem (by exact hlt)⟩
    obtain ⟨q, hq⟩ : ∃ q, (numL u)[i]? = some q := ⟨_, List.getElem?_eq_getElem (by exact hlt)⟩
    have hcp : w6.cell? ⟨g9, i, none⟩ = some (.int .i64 p) := (Below.cell HB6.out (p := ⟨g9, i, none⟩) H9.out.lt).trans ((H9.out.cell i).trans ((List.getElem?_toArray (xs := intL (numL v))).trans (intL_at hp)))
    have hcq : w6.cell? ⟨g10, i, none⟩ = some (.int .i64 q) := (Below.cell HB6.out (p := ⟨g10, i, none⟩) H10.out.lt).trans ((H10.out.cell i).trans ((List.getElem?_toArray (xs := intL (numL u))).trans (intL_at hq)))
    have hco : w6.cell? ⟨w3.heap.size, 0, none⟩ = some (.int .i64 own) := (Below.cell HB6.out (p := ⟨w3.heap.size, 0, none⟩) HK35.out.lt).trans (HK35.out.cell 0)
    have HBR := hid (fun m => barred_any w3.heap.size own p q (w6.drewN m) hco)
    have HSTEP := hid (bad_step (own := own) hp hq)
    clear hp hq
    go_wp2_with fail
    cases hbr : Co.barred own p q with
    | true =>
     have HRB : Hid (R = 20) := hid (by rw [HR.out]; unfold Co.changeE Co.changeB; rw [hown, HBF.out, HSTEP.out, hbr]; rfl)
     rw [hbr] at HBR
     clear hbr
     go_quiet (exact Calls.quiet_of_same (HBR.out _))
     go_wp2_with fail
     try rw [Exit.noGoto_ret]
     go_ret
     exact ⟨ret_int HRB.out.symm, below_drewN (HB5.out.trans (HB6.out.mono HB5.out.size)) _⟩
    | false =>
     have HBN : Hid (Co.numsBad v u own = badFrom v u own (i + 1)) := hid (by rw [HBF.out, HSTEP.out, hbr]; rfl)
     rw [hbr] at HBR
     clear hbr
     have hci : i + 1 ≤ 7 := hlt
     go_quiet (exact Calls.quiet_of_same (HBR.out _))
     go_wp2_with fail
     go_roundw
     case rel => exact ⟨i + 1, hci, by go_num, HBN, below_drewN HB6.out _⟩
     case measure => simp [RowKit.intOf]; omega
   ·obtain rfl : i = 7 := by omega
    rw [show ((7 : Nat) : Int) = 7 from rfl]
    have HNF : Hid (Co.numsBad v u own = false) := hid (by rw [HBF.out]; rfl)
    have HBW6 := hid (HB5.out.trans (HB6.out.mono HB5.out.size))
    have HK16 := hid (HK15.out.below HB6.out HK15.out.lt)
    have HK26 := hid (HK25.out.below HB6.out HK25.out.lt)
    have HK36 := hid (HK35.out.below HB6.out HK35.out.lt)
    have HV6 := hid (HV5.out.bel HB6.out)
    have HU6 := hid (HU5.out.bel HB6.out)
    clear HBF HNB H9 H10 HB6
    obtain ⟨cvu, cvk, hXV, ⟨Avu, cpvu, rfl, hrvu, -⟩, ⟨Avk, cpvk, rfl, hrvk, -⟩⟩ := HV6.out
    obtain ⟨cuu, cuk, hXU, ⟨Auu, cpuu, rfl, hruu, -⟩, ⟨Auk, cpuk, rfl, hruk, -⟩⟩ := HU6.out
    have h16 : w6.cell? ⟨w.heap.size, 1, none⟩ = some (.slice Avk v.kinds.length cpvk) := (HK16.out.cell 1).trans (by rw [List.getElem?_toArray, hXV]; rfl)
    have h26 : w6.cell? ⟨w.heap.size + 1, 1, none⟩ = some (.slice Auk u.kinds.length cpuk) := (HK26.out.cell 1).trans (by rw [List.getElem?_toArray, hXU]; rfl)
    have H10 : Hid (w6.cell? ⟨w.heap.size, 0, none⟩ = some (.slice Avu v.users.length cpvu)) := hid ((HK16.out.cell 0).trans (by rw [List.getElem?_toArray, hXV]; rfl))
    have H20 : Hid (w6.cell? ⟨w.heap.size + 1, 0, none⟩ = some (.slice Auu u.users.length cpuu)) := hid ((HK26.out.cell 0).trans (by rw [List.getElem?_toArray, hXU]; rfl))
    have HRVU := hid hrvu
    have HRVK := hid hrvk
    have HRUU := hid hruu
    have HRUK := hid hruk
    clear hrvu hrvk hruu hruk hXV hXU
    go_wp2_with fail
    go_loopw [48] (fun ix wr => ∃ i : Nat, i ≤ 2 ∧ ix = .int .i64 (i : Int) ∧ Hid (0 < i → v.kinds.any (Co.kindBad v u own) = false) ∧ Hid (1 < i → u.kinds.any (Co.kindBad v u own) = false) ∧ Below w6.heap.size w6 wr) (fun ix _ => 2 - (RowKit.intOf ix).toNat)
    case atStart => exact ⟨0, by omega, rfl, hid (fun h => absurd h (by omega)), hid (fun h => absurd h (by omega)), Below.refl _ _⟩
    case round =>
     obtain ⟨i, hi, rfl, HI0, HI1, hb⟩ := hrel
     have HB6 := hid hb
     clear hb
     rcases (show i = 0 ∨ i = 1 ∨ i = 2 by omega) with rfl | rfl | rfl
     ·rw [show ((0 : Nat) : Int) = 0 from rfl]
      have hix : ∀ W, (Instr.index 102 (.agg #[.slice Avk v.kinds.length cpvk, .slice Auk u.kinds.length cpuk]) (.int .i64 0)).run Tryz.prog W = .ok (.slice Avk v.kinds.length cpvk) W := fun _ => by kernel_rfl
      go_wp2_with fail
      have hLN : v.kinds.length ≤ 1000000 := HVS.out.2
      go_loopw [53] (fun jx wr => ∃ j : Nat, j ≤ v.kinds.length ∧ jx = .int .i64 (j : Int) ∧ Hid ((v.kinds.take j).any (Co.kindBad v u own) = false) ∧ Below w6.heap.size w6 wr) (fun jx _ => v.kinds.length - (RowKit.intOf jx).toNat)
      case atStart => exact ⟨0, Nat.zero_le _, rfl, hid rfl, HB6.out⟩
      case round =>
       obtain ⟨j, hj, rfl, HJ, hb⟩ := hrel
       have HB7 := hid hb
       obtain ⟨w7, hw7⟩ : ∃ x, x = wr := ⟨_, rfl⟩
       subst hw7
       by_cases hlj : j < v.kinds.length
       ·obtain ⟨x, hx⟩ : ∃ x, v.kinds[j]? = some x := ⟨_, List.getElem?_eq_getElem hlj⟩
        have hrd := HRVK.out.below hb
        have e0 := kndL_at hx (j := 0) (by decide)
        have e1 := kndL_at hx (j := 1) (by decide)
        obtain ⟨b, off, rfl, hx0⟩ := hrd.2 _ _ e0
        have hx1 : w7.cell? ⟨b, off + j * 2 + 1, none⟩ = some (.int .i64 x.2) := by
         obtain ⟨b', off', e, hx1⟩ := hrd.2 _ _ e1
         injection e with e
         injection e with e2 e3
         subst e2 e3
         exact hx1
        have hx0 : w7.cell? ⟨b, off + j * 2, none⟩ = some (.int .i64 x.1) := hx0
        have HST := hid (any_snoc (p := Co.kindBad v u own) hx)
        have hcj : j + 1 ≤ v.kinds.length := hlj
        have hb8 := (Below.refl w7.heap.size w7).alloc (Nat.le_refl _) (.cells #[.int .i64 x.1, .int .i64 x.2] 93)
        have HB8 := hid (HB7.out.trans (hb8.mono HB7.out.size))
        have HK8 := hid (Blk.new w7 93 #[.int .i64 x.1, .int .i64 x.2])
        have HMEM := hid (List.mem_of_getElem? hx)
        clear hb hrd e0 e1 hx hb8
        generalize hw8 : w7.alloc (.cells #[.int .i64 x.1, .int .i64 x.2] 93) = w8 at *
        have HK18 := hid (HK16.out.below HB8.out HK16.out.lt)
        have HK28 := hid (HK26.out.below HB8.out HK26.out.lt)
        have HK38 := hid (HK36.out.below HB8.out HK36.out.lt)
        have HV8 := hid (HV6.out.bel HB8.out)
        have HU8 := hid (HU6.out.bel HB8.out)
        have HKBD : Hid (Co.kindBad v u own x = Co.barred own (Co.needs v x.1) (Co.needs u x.1)) := hid rfl
        obtain ⟨bb, hbb⟩ : ∃ bb, bb = Co.barred own (Co.needs v x.1) (Co.needs u x.1) := ⟨_, rfl⟩
        have HBB := hid hbb
        clear hbb
        go_upto_region 16 with fail
        refine wp_region_noPanic ?_
        refine wp_region_held_drew (S := fun W => Below w8.heap.size w8 W) (by kernel_rfl) ((Below.refl _ _).drew) (fun hHeld => ?_)
        generalize hwd : w8.drew = wd at *
        have HBd := hid hHeld
        refine wpAnyH_take (i := 0) (oi := _) (v := ?_) rfl (by kernel_rfl) (by kernel_rfl) (by kernel_rfl) (fun _ _ _ h => h) (Or.inl ⟨by kernel_rfl, ?_⟩) hHeld ?_
        rotate_left
        ·intro wq hSw
         go_simp
         (try with_reducible rfl)
        (try simp only [Act.put, pk1, pk2, pk3, pk4, pk5, pk6])
        refine wpAnyH_take (i := 1) (oi := _) (v := _) rfl (by kernel_rfl) (by kernel_rfl) (by kernel_rfl) (fun _ _ _ h => h) (row_yields_u (X := XV.toArray) rfl Tryz.underlying28 HSV.out (fun W h => HK18.out.below h HK18.out.lt) (by kernel_rfl) _ rfl rfl) hHeld ?_
        (try simp only [Act.put, pk1, pk2, pk3, pk4, pk5, pk6])
        refine wpAnyH_take (i := 2) (oi := _) (v := ?_) rfl (by kernel_rfl) (by kernel_rfl) (by kernel_rfl) (fun _ _ _ h => h) (Or.inl ⟨by kernel_rfl, ?_⟩) hHeld ?_
        rotate_left
        ·intro wq hSw
         go_simp
         (try with_reducible rfl)
        (try simp only [Act.put, pk1, pk2, pk3, pk4, pk5, pk6])
        refine wpAnyH_take (i := 3) (oi := _) (v := ?_) rfl (by kernel_rfl) (by kernel_rfl) (by kernel_rfl) (fun _ _ _ h => h) (Or.inl ⟨by kernel_rfl, ?_⟩) hHeld ?_
        rotate_left
        ·intro wq hSw
         have hx0 : wq.cell? ⟨w7.heap.size, 0, none⟩ = some (.int .i64 x.1) := (Below.cell hSw (p := ⟨w7.heap.size, 0, none⟩) HK8.out.lt).trans (HK8.out.cell 0)
         go_simp
         (try with_reducible rfl)
        (try simp only [Act.put, pk1, pk2, pk3, pk4, pk5, pk6])
        refine wpAnyH_take (i := 5) (oi := _) (v := _) rfl (by kernel_rfl) (by kernel_rfl) (by kernel_rfl) (fun _ _ _ h => h) (row_yields_u (X := XU.toArray) rfl Tryz.underlying28 HSU.out (fun W h => HK28.out.below h HK28.out.lt) (by kernel_rfl) _ rfl rfl) hHeld ?_
        (try simp only [Act.put, pk1, pk2, pk3, pk4, pk5, pk6])
        refine wpAnyH_take (i := 6) (oi := _) (v := ?_) rfl (by kernel_rfl) (by kernel_rfl) (by kernel_rfl) (fun _ _ _ h => h) (Or.inl ⟨by kernel_rfl, ?_⟩) hHeld ?_
        rotate_left
        ·intro wq hSw
         go_simp
         (try with_reducible rfl)
        (try simp only [Act.put, pk1, pk2, pk3, pk4, pk5, pk6])
        refine wpAnyH_take (i := 7) (oi := _) (v := ?_) rfl (by kernel_rfl) (by kernel_rfl) (by kernel_rfl) (fun _ _ _ h => h) (Or.inl ⟨by kernel_rfl, ?_⟩) hHeld ?_
        rotate_left
        ·intro wq hSw
         have hx0 : wq.cell? ⟨w7.heap.size, 0, none⟩ = some (.int .i64 x.1) := (Below.cell hSw (p := ⟨w7.heap.size, 0, none⟩) HK8.out.lt).trans (HK8.out.cell 0)
         go_simp
         (try with_reducible rfl)
        (try simp only [Act.put, pk1, pk2, pk3, pk4, pk5, pk6])
        refine wpAnyH_ready (rs := [4]) (by kernel_rfl) (by simp) ?_
        refine AllReadyH.cons (o := _) rfl (fun K hK => ?_) AllReadyH.nil
        go_simp
        go_at_call 21
        refine (needs_any ok v XV x.1 wd (HV8.out.bel HBd.out) HVS.out.2).mono ?_
        rintro e ra ⟨rfl, hba⟩
        have HBa := hid (HBd.out.trans (hba.mono HBd.out.size))
        clear hba
        refine hK.out _ _ (HBa.out) (fun hHeld2 => ?_)
        clear hK K hHeld
        have hHeld := hHeld2
        clear hHeld2
        (try simp only [Act.put, pk1, pk2, pk3, pk4, pk5, pk6])
        refine wpAnyH_ready (rs := [8]) (by kernel_rfl) (by simp) ?_
        refine AllReadyH.cons (o := _) rfl (fun K hK => ?_) AllReadyH.nil
        go_simp
        go_at_call 21
        refine (needs_any ok u XU x.1 ra (HU8.out.bel HBa.out) HUS.out.2).mono ?_
        rintro e rb ⟨rfl, hbb⟩
        have HBb := hid (HBa.out.trans (hbb.mono HBa.out.size))
        clear hbb
        refine hK.out _ _ (HBb.out) (fun hHeld2 => ?_)
        clear hK K hHeld
        have hHeld := hHeld2
        clear hHeld2
        (try simp only [Act.put, pk1, pk2, pk3, pk4, pk5, pk6])
        refine wpAnyH_ready (rs := [9]) (by kernel_rfl) (by simp) ?_
        refine AllReadyH.cons (o := _) rfl (fun K hK => ?_) AllReadyH.nil
        go_simp
        refine (barred_any w3.heap.size own (Co.needs v x.1) (Co.needs u x.1) rb ((Below.cell HBb.out (p := ⟨w3.heap.size, 0, none⟩) HK38.out.lt).trans (HK38.out.cell 0))).mono ?_
        rintro e rc ⟨rfl, hrc⟩
        rw [hrc, ← HBB.out]
        refine hK.out _ _ (HBb.out) (fun hHeld2 => ?_)
        clear hK K hHeld
        have hHeld := hHeld2
        clear hHeld2
        (try simp only [Act.put, pk1, pk2, pk3, pk4, pk5, pk6])
        refine wpAnyH_done (by kernel_rfl) ?_ _
        refine NoPanic.normal ?_
        cases bb with
        | true =>
         have HRB : Hid (R = 20) := hid (by rw [HR.out]; exact change_bad (.inr (.inl (.inl (any_of HMEM.out (by rw [hown, HKBD.out, ← HBB.out]))))))
         go_wp2_with fail
         try rw [Exit.noGoto_ret]
         go_ret
         exact ⟨ret_int HRB.out.symm, HBW6.out.trans ((HB8.out.trans (HBb.out.mono HB8.out.size)).mono HBW6.out.size)⟩
        | false =>
         have HJN : Hid ((v.kinds.take (j + 1)).any (Co.kindBad v u own) = false) := hid (by rw [HST.out, HJ.out, HKBD.out, ← HBB.out]; rfl)
         go_wp2_with fail
         go_roundw
         case rel => exact ⟨j + 1, hcj, by go_num, HJN, HB8.out.trans (HBb.out.mono HB8.out.size)⟩
         case measure => simp [RowKit.intOf]; omega
       ·obtain rfl : j = v.kinds.length := by omega
        have HJF : Hid (v.kinds.any (Co.kindBad v u own) = false) := hid (by have := HJ.out; rwa [List.take_length] at this)
        go_wp2_with fail
        go_roundw
        case rel => exact ⟨1, by omega, rfl, hid (fun _ => HJF.out), hid (fun h => absurd h (by omega)), HB7.out⟩
        case measure => simp [RowKit.intOf]
     ·rw [show ((1 : Nat) : Int) = 1 from rfl]
      have hix : ∀ W, (Instr.index 102 (.agg #[.slice Avk v.kinds.length cpvk, .slice Auk u.kinds.length cpuk]) (.int .i64 1)).run Tryz.prog W = .ok (.slice Auk u.kinds.length cpuk) W := fun _ => by kernel_rfl
      go_wp2_with fail
      have hLN : u.kinds.length ≤ 1000000 := HUS.out.2
      go_loopw [53] (fun jx wr => ∃ j : Nat, j ≤ u.kinds.length ∧ jx = .int .i64 (j : Int) ∧ Hid ((u.kinds.take j).any (Co.kindBad v u own) = false) ∧ Below w6.heap.size w6 wr) (fun jx _ => u.kinds.length - (RowKit.intOf jx).toNat)
      case atStart => exact ⟨0, Nat.zero_le _, rfl, hid rfl, HB6.out⟩
      case round =>
       obtain ⟨j, hj, rfl, HJ, hb⟩ := hrel
       have HB7 := hid hb
       obtain ⟨w7, hw7⟩ : ∃ x, x = wr := ⟨_, rfl⟩
       subst hw7
       by_cases hlj : j < u.kinds.length
       ·obtain ⟨x, hx⟩ : ∃ x, u.kinds[j]? = some x := ⟨_, List.getElem?_eq_getElem hlj⟩
        have hrd := HRUK.out.below hb
        have e0 := kndL_at hx (j := 0) (by decide)
        have e1 := kndL_at hx (j := 1) (by decide)
        obtain ⟨b, off, rfl, hx0⟩ := hrd.2 _ _ e0
        have hx1 : w7.cell? ⟨b, off + j * 2 + 1, none⟩ = some (.int .i64 x.2) := by
         obtain ⟨b', off', e, hx1⟩ := hrd.2 _ _ e1
         injection e with e
         injection e with e2 e3
         subst e2 e3
         exact hx1
        have hx0 : w7.cell? ⟨b, off + j * 2, none⟩ = some (.int .i64 x.1) := hx0
        have HST := hid (any_snoc (p := Co.kindBad v u own) hx)
        have hcj : j + 1 ≤ u.kinds.length := hlj
        have hb8 := (Below.refl w7.heap.size w7).alloc (Nat.le_refl _) (.cells #[.int .i64 x.1, .int .i64 x.2] 93)
        have HB8 := hid (HB7.out.trans (hb8.mono HB7.out.size))
        have HK8 := hid (Blk.new w7 93 #[.int .i64 x.1, .int .i64 x.2])
        have HMEM := hid (List.mem_of_getElem? hx)
        clear hb hrd e0 e1 hx hb8
        generalize hw8 : w7.alloc (.cells #[.int .i64 x.1, .int .i64 x.2] 93) = w8 at *
        have HK18 := hid (HK16.out.below HB8.out HK16.out.lt)
        have HK28 := hid (HK26.out.below HB8.out HK26.out.lt)
        have HK38 := hid (HK36.out.below HB8.out HK36.out.lt)
        have HV8 := hid (HV6.out.bel HB8.out)
        have HU8 := hid (HU6.out.bel HB8.out)
        have HKBD : Hid (Co.kindBad v u own x = Co.barred own (Co.needs v x.1) (Co.needs u x.1)) := hid rfl
        obtain ⟨bb, hbb⟩ : ∃ bb, bb = Co.barred own (Co.needs v x.1) (Co.needs u x.1) := ⟨_, rfl⟩
        have HBB := hid hbb
        clear hbb
        go_upto_region 16 with fail
        refine wp_region_noPanic ?_
        refine wp_region_held_drew (S := fun W => Below w8.heap.size w8 W) (by kernel_rfl) ((Below.refl _ _).drew) (fun hHeld => ?_)
        generalize hwd : w8.drew = wd at *
        have HBd := hid hHeld
        refine wpAnyH_take (i := 0) (oi := _) (v := ?_) rfl (by kernel_rfl) (by kernel_rfl) (by kernel_rfl) (fun _ _ _ h => h) (Or.inl ⟨by kernel_rfl, ?_⟩) hHeld ?_
        rotate_left
        ·intro wq hSw
         go_simp
         (try with_reducible rfl)
        (try simp only [Act.put, pk1, pk2, pk3, pk4, pk5, pk6])
        refine wpAnyH_take (i := 1) (oi := _) (v := _) rfl (by kernel_rfl) (by kernel_rfl) (by kernel_rfl) (fun _ _ _ h => h) (row_yields_u (X := XV.toArray) rfl Tryz.underlying28 HSV.out (fun W h => HK18.out.below h HK18.out.lt) (by kernel_rfl) _ rfl rfl) hHeld ?_
        (try simp only [Act.put, pk1, pk2, pk3, pk4, pk5, pk6])
        refine wpAnyH_take (i := 2) (oi := _) (v := ?_) rfl (by kernel_rfl) (by kernel_rfl) (by kernel_rfl) (fun _ _ _ h => h) (Or.inl ⟨by kernel_rfl, ?_⟩) hHeld ?_
        rotate_left
        ·intro wq hSw
         go_simp
         (try with_reducible rfl)
        (try simp only [Act.put, pk1, pk2, pk3, pk4, pk5, pk6])
        refine wpAnyH_take (i := 3) (oi := _) (v := ?_) rfl (by kernel_rfl) (by kernel_rfl) (by kernel_rfl) (fun _ _ _ h => h) (Or.inl ⟨by kernel_rfl, ?_⟩) hHeld ?_
        rotate_left
        ·intro wq hSw
         have hx0 : wq.cell? ⟨w7.heap.size, 0, none⟩ = some (.int .i64 x.1) := (Below.cell hSw (p := ⟨w7.heap.size, 0, none⟩) HK8.out.lt).trans (HK8.out.cell 0)
         go_simp
         (try with_reducible rfl)
        (try simp only [Act.put, pk1, pk2, pk3, pk4, pk5, pk6])
        refine wpAnyH_take (i := 5) (oi := _) (v := _) rfl (by kernel_rfl) (by kernel_rfl) (by kernel_rfl) (fun _ _ _ h => h) (row_yields_u (X := XU.toArray) rfl Tryz.underlying28 HSU.out (fun W h => HK28.out.below h HK28.out.lt) (by kernel_rfl) _ rfl rfl) hHeld ?_
        (try simp only [Act.put, pk1, pk2, pk3, pk4, pk5, pk6])
        refine wpAnyH_take (i := 6) (oi := _) (v := ?_) rfl (by kernel_rfl) (by kernel_rfl) (by kernel_rfl) (fun _ _ _ h => h) (Or.inl ⟨by kernel_rfl, ?_⟩) hHeld ?_
        rotate_left
        ·intro wq hSw
         go_simp
         (try with_reducible rfl)
        (try simp only [Act.put, pk1, pk2, pk3, pk4, pk5, pk6])
        refine wpAnyH_take (i := 7) (oi := _) (v := ?_) rfl (by kernel_rfl) (by kernel_rfl) (by kernel_rfl) (fun _ _ _ h => h) (Or.inl ⟨by kernel_rfl, ?_⟩) hHeld ?_
        rotate_left
        ·intro wq hSw
         have hx0 : wq.cell? ⟨w7.heap.size, 0, none⟩ = some (.int .i64 x.1) := (Below.cell hSw (p := ⟨w7.heap.size, 0, none⟩) HK8.out.lt).trans (HK8.out.cell 0)
         go_simp
         (try with_reducible rfl)
        (try simp only [Act.put, pk1, pk2, pk3, pk4, pk5, pk6])
        refine wpAnyH_ready (rs := [4]) (by kernel_rfl) (by simp) ?_
        refine AllReadyH.cons (o := _) rfl (fun K hK => ?_) AllReadyH.nil
        go_simp
        go_at_call 21
        refine (needs_any ok v XV x.1 wd (HV8.out.bel HBd.out) HVS.out.2).mono ?_
        rintro e ra ⟨rfl, hba⟩
        have HBa := hid (HBd.out.trans (hba.mono HBd.out.size))
        clear hba
        refine hK.out _ _ (HBa.out) (fun hHeld2 => ?_)
        clear hK K hHeld
        have hHeld := hHeld2
        clear hHeld2
        (try simp only [Act.put, pk1, pk2, pk3, pk4, pk5, pk6])
        refine wpAnyH_ready (rs := [8]) (by kernel_rfl) (by simp) ?_
        refine AllReadyH.cons (o := _) rfl (fun K hK => ?_) AllReadyH.nil
        go_simp
        go_at_call 21
        refine (needs_any ok u XU x.1 ra (HU8.out.bel HBa.out) HUS.out.2).mono ?_
        rintro e rb ⟨rfl, hbb⟩
        have HBb := hid (HBa.out.trans (hbb.mono HBa.out.size))
        clear hbb
        refine hK.out _ _ (HBb.out) (fun hHeld2 => ?_)
        clear hK K hHeld
        have hHeld := hHeld2
        clear hHeld2
        (try simp only [Act.put, pk1, pk2, pk3, pk4, pk5, pk6])
        refine wpAnyH_ready (rs := [9]) (by kernel_rfl) (by simp) ?_
        refine AllReadyH.cons (o := _) rfl (fun K hK => ?_) AllReadyH.nil
        go_simp
        refine (barred_any w3.heap.size own (Co.needs v x.1) (Co.needs u x.1) rb ((Below.cell HBb.out (p := ⟨w3.heap.size, 0, none⟩) HK38.out.lt).trans (HK38.out.cell 0))).mono ?_
        rintro e rc ⟨rfl, hrc⟩
        rw [hrc, ← HBB.out]
        refine hK.out _ _ (HBb.out) (fun hHeld2 => ?_)
        clear hK K hHeld
        have hHeld := hHeld2
        clear hHeld2
        (try simp only [Act.put, pk1, pk2, pk3, pk4, pk5, pk6])
        refine wpAnyH_done (by kernel_rfl) ?_ _
        refine NoPanic.normal ?_
        cases bb with
        | true =>
         have HRB : Hid (R = 20) := hid (by rw [HR.out]; exact change_bad (.inr (.inl (.inr (any_of HMEM.out (by rw [hown, HKBD.out, ← HBB.out]))))))
         go_wp2_with fail
         try rw [Exit.noGoto_ret]
         go_ret
         exact ⟨ret_int HRB.out.symm, HBW6.out.trans ((HB8.out.trans (HBb.out.mono HB8.out.size)).mono HBW6.out.size)⟩
        | false =>
         have HJN : Hid ((u.kinds.take (j + 1)).any (Co.kindBad v u own) = false) := hid (by rw [HST.out, HJ.out, HKBD.out, ← HBB.out]; rfl)
         go_wp2_with fail
         go_roundw
         case rel => exact ⟨j + 1, hcj, by go_num, HJN, HB8.out.trans (HBb.out.mono HB8.out.size)⟩
         case measure => simp [RowKit.intOf]; omega
       ·obtain rfl : j = u.kinds.length := by omega
        have HJF : Hid (u.kinds.any (Co.kindBad v u own) = false) := hid (by have := HJ.out; rwa [List.take_length] at this)
        go_wp2_with fail
        go_roundw
        case rel => exact ⟨2, by omega, rfl, hid (fun _ => HI0.out (by omega)), hid (fun _ => HJF.out), HB7.out⟩
        case measure => simp [RowKit.intOf]
     ·rw [show ((2 : Nat) : Int) = 2 from rfl]
      have HKV := hid (HI0.out (by omega))
      have HKU := hid (HI1.out (by omega))
      have h16 : wr.cell? ⟨w.heap.size, 0, none⟩ = some (.slice Avu v.users.length cpvu) := (Below.cell HB6.out (p := ⟨w.heap.size, 0, none⟩) HK16.out.lt).trans H10.out
      have h26 : wr.cell? ⟨w.heap.size + 1, 0, none⟩ = some (.slice Auu u.users.length cpuu) := (Below.cell HB6.out (p := ⟨w.heap.size + 1, 0, none⟩) HK26.out.lt).trans H20.out
      obtain ⟨w66, hw66⟩ : ∃ x, x = wr := ⟨_, rfl⟩
      subst hw66
      have HBO := HB6
      go_wp2_with fail
      go_step3
      go_wp2_with fail
      go_loopw [16, 74] (fun tx ix wr => ∃ i : Nat, i ≤ 2 ∧ tx = .bool false ∧ ix = .int .i64 (i : Int) ∧ Hid (0 < i → v.users.any (Co.userBad v u own user) = false) ∧ Hid (1 < i → u.users.any (Co.userBad v u own user) = false) ∧ Below w6.heap.size w6 wr) (fun _ ix _ => 2 - (RowKit.intOf ix).toNat)
      case atStart => exact ⟨0, by omega, rfl, rfl, hid (fun h => absurd h (by omega)), hid (fun h => absurd h (by omega)), HBO.out⟩
      case round =>
       obtain ⟨i, hi, rfl, rfl, HI0, HI1, hb⟩ := hrel
       have HB6 := hid hb
       clear hb
       rcases (show i = 0 ∨ i = 1 ∨ i = 2 by omega) with rfl | rfl | rfl
       ·rw [show ((0 : Nat) : Int) = 0 from rfl]
        have hix : ∀ W, (Instr.index 103 (.agg #[.slice Avu v.users.length cpvu, .slice Auu u.users.length cpuu]) (.int .i64 0)).run Tryz.prog W = .ok (.slice Avu v.users.length cpvu) W := fun _ => by kernel_rfl
        go_wp2_with fail
        have hLN : v.users.length ≤ 1000000 := HVS.out.1
        go_loopw [16, 79] (fun tx jx wr => ∃ j : Nat, j ≤ v.users.length ∧ tx = .bool false ∧ jx = .int .i64 (j : Int) ∧ Hid ((v.users.take j).any (Co.userBad v u own user) = false) ∧ Below w6.heap.size w6 wr) (fun _ jx _ => v.users.length - (RowKit.intOf jx).toNat)
        case atStart => exact ⟨0, Nat.zero_le _, rfl, rfl, hid rfl, HB6.out⟩
        case round =>
         obtain ⟨j, hj, rfl, rfl, HJ, hb⟩ := hrel
         have HB7 := hid hb
         obtain ⟨w7, hw7⟩ : ∃ x, x = wr := ⟨_, rfl⟩
         subst hw7
         by_cases hlj : j < v.users.length
         ·obtain ⟨x, hx⟩ : ∃ x, v.users[j]? = some x := ⟨_, List.getElem?_eq_getElem hlj⟩
          have hrd := HRVU.out.below hb
          have e0 := usrL_at hx (j := 0) (by decide)
          have e1 := usrL_at hx (j := 1) (by decide)
          obtain ⟨b, off, rfl, hx0⟩ := hrd.2 _ _ e0
          have hx1 : w7.cell? ⟨b, off + j * 2 + 1, none⟩ = some (.int .i64 x.2) := by
           obtain ⟨b', off', e, hx1⟩ := hrd.2 _ _ e1
           injection e with e
           injection e with e2 e3
           subst e2 e3
           exact hx1
          have hx0 : w7.cell? ⟨b, off + j * 2, none⟩ = some (.string (bstr x.1)) := hx0
          have HST := hid (any_snoc (p := Co.userBad v u own user) hx)
          have hcj : j + 1 ≤ v.users.length := hlj
          have hb8 := (Below.refl w7.heap.size w7).alloc (Nat.le_refl _) (.cells #[.string (bstr x.1), .int .i64 x.2] 49)
          have HB8 := hid (HB7.out.trans (hb8.mono HB7.out.size))
          have HK8 := hid (Blk.new w7 49 #[.string (bstr x.1), .int .i64 x.2])
          have HMEM := hid (List.mem_of_getElem? hx)
          clear hb hrd e0 e1 hx hb8
          generalize hw8 : w7.alloc (.cells #[.string (bstr x.1), .int .i64 x.2] 49) = w8 at *
          have HK18 := hid (HK16.out.below HB8.out HK16.out.lt)
          have HK28 := hid (HK26.out.below HB8.out HK26.out.lt)
          have HK38 := hid (HK36.out.below HB8.out HK36.out.lt)
          have HV8 := hid (HV6.out.bel HB8.out)
          have HU8 := hid (HU6.out.bel HB8.out)
          have HUB : Hid (Co.userBad v u own user x = (Co.barred own (Co.userLv v x.1) (Co.userLv u x.1) || (Co.userLv v x.1 != Co.userLv u x.1 && (!(x.1 == user) && decide (own ≤ Co.userLv v x.1))))) := hid rfl
          go_upto_region 27 with fail
          refine wp_region_noPanic ?_
          refine wp_region_held_drew (S := fun W => Below w8.heap.size w8 W) (by kernel_rfl) ((Below.refl _ _).drew) (fun hHeld => ?_)
          generalize hwd : w8.drew = wd at *
          have HBd := hid hHeld
          refine wpAnyH_take (i := 0) (oi := _) (v := _) rfl (by kernel_rfl) (by kernel_rfl) (by kernel_rfl) (fun _ _ _ h => h) (row_yields_u (X := XV.toArray) rfl Tryz.underlying28 HSV.out (fun W h => HK18.out.below h HK18.out.lt) (by kernel_rfl) _ rfl rfl) hHeld ?_
          (try simp only [Act.put, pk1, pk2, pk3, pk4, pk5, pk6])
          refine wpAnyH_take (i := 1) (oi := _) (v := ?_) rfl (by kernel_rfl) (by kernel_rfl) (by kernel_rfl) (fun _ _ _ h => h) (Or.inl ⟨by kernel_rfl, ?_⟩) hHeld ?_
          rotate_left
          ·intro wq hSw
           go_simp
           (try with_reducible rfl)
          (try simp only [Act.put, pk1, pk2, pk3, pk4, pk5, pk6])
          refine wpAnyH_take (i := 2) (oi := _) (v := ?_) rfl (by kernel_rfl) (by kernel_rfl) (by kernel_rfl) (fun _ _ _ h => h) (Or.inl ⟨by kernel_rfl, ?_⟩) hHeld ?_
          rotate_left
          ·intro wq hSw
           have hx0 : wq.cell? ⟨w7.heap.size, 0, none⟩ = some (.string (bstr x.1)) := (Below.cell hSw (p := ⟨w7.heap.size, 0, none⟩) HK8.out.lt).trans (HK8.out.cell 0)
           go_simp
           (try with_reducible rfl)
          (try simp only [Act.put, pk1, pk2, pk3, pk4, pk5, pk6])
          refine wpAnyH_take (i := 4) (oi := _) (v := _) rfl (by kernel_rfl) (by kernel_rfl) (by kernel_rfl) (fun _ _ _ h => h) (row_yields_u (X := XU.toArray) rfl Tryz.underlying28 HSU.out (fun W h => HK28.out.below h HK28.out.lt) (by kernel_rfl) _ rfl rfl) hHeld ?_
          (try simp only [Act.put, pk1, pk2, pk3, pk4, pk5, pk6])
          refine wpAnyH_take (i := 5) (oi := _) (v := ?_) rfl (by kernel_rfl) (by kernel_rfl) (by kernel_rfl) (fun _ _ _ h => h) (Or.inl ⟨by kernel_rfl, ?_⟩) hHeld ?_
          rotate_left
          ·intro wq hSw
           go_simp
           (try with_reducible rfl)
          (try simp only [Act.put, pk1, pk2, pk3, pk4, pk5, pk6])
          refine wpAnyH_take (i := 6) (oi := _) (v := ?_) rfl (by kernel_rfl) (by kernel_rfl) (by kernel_rfl) (fun _ _ _ h => h) (Or.inl ⟨by kernel_rfl, ?_⟩) hHeld ?_
          rotate_left
          ·intro wq hSw
           have hx0 : wq.cell? ⟨w7.heap.size, 0, none⟩ = some (.string (bstr x.1)) := (Below.cell hSw (p := ⟨w7.heap.size, 0, none⟩) HK8.out.lt).trans (HK8.out.cell 0)
           go_simp
           (try with_reducible rfl)
          (try simp only [Act.put, pk1, pk2, pk3, pk4, pk5, pk6])
          refine wpAnyH_ready (rs := [3]) (by kernel_rfl) (by simp) ?_
          refine AllReadyH.cons (o := _) rfl (fun K hK => ?_) AllReadyH.nil
          go_simp
          go_at_call 20
          refine (lvuser_any ok v XV x.1 wd (HV8.out.bel HBd.out) HVS.out.1).mono ?_
          rintro e ra ⟨rfl, hba⟩
          have HBa := hid (HBd.out.trans (hba.mono HBd.out.size))
          clear hba
          refine hK.out _ _ (HBa.out) (fun hHeld2 => ?_)
          clear hK K hHeld
          have hHeld := hHeld2
          clear hHeld2
          (try simp only [Act.put, pk1, pk2, pk3, pk4, pk5, pk6])
          refine wpAnyH_ready (rs := [7]) (by kernel_rfl) (by simp) ?_
          refine AllReadyH.cons (o := _) rfl (fun K hK => ?_) AllReadyH.nil
          go_simp
          go_at_call 20
          refine (lvuser_any ok u XU x.1 ra (HU8.out.bel HBa.out) HUS.out.1).mono ?_
          rintro e rb ⟨rfl, hbb⟩
          have HBb := hid (HBa.out.trans (hbb.mono HBa.out.size))
          clear hbb
          refine hK.out _ _ (HBb.out) (fun hHeld2 => ?_)
          clear hK K hHeld
          have hHeld := hHeld2
          clear hHeld2
          (try simp only [Act.put, pk1, pk2, pk3, pk4, pk5, pk6])
          refine wpAnyH_take (i := 8) (oi := _) (v := ?_) rfl (by kernel_rfl) (by kernel_rfl) (by kernel_rfl) (fun _ _ _ h => h) (Or.inl ⟨by kernel_rfl, ?_⟩) hHeld ?_
          rotate_left
          ·intro wq hSw
           go_simp
           (try with_reducible rfl)
          (try simp only [Act.put, pk1, pk2, pk3, pk4, pk5, pk6])
          refine wpAnyH_take (i := 9) (oi := _) (v := ?_) rfl (by kernel_rfl) (by kernel_rfl) (by kernel_rfl) (fun _ _ _ h => h) (Or.inl ⟨by kernel_rfl, ?_⟩) hHeld ?_
          rotate_left
          ·intro wq hSw
           go_simp
           (try with_reducible rfl)
          (try simp only [Act.put, pk1, pk2, pk3, pk4, pk5, pk6])
          refine wpAnyH_done (by kernel_rfl) ?_ _
          refine NoPanic.normal ?_
          have hxs : rb.cell? ⟨w7.heap.size, 0, none⟩ = some (.string (bstr x.1)) := (Below.cell HBb.out (p := ⟨w7.heap.size, 0, none⟩) HK8.out.lt).trans (HK8.out.cell 0)
          have hco : rb.cell? ⟨w3.heap.size, 0, none⟩ = some (.int .i64 own) := (Below.cell HBb.out (p := ⟨w3.heap.size, 0, none⟩) HK38.out.lt).trans (HK38.out.cell 0)
          have HBR := hid (barred_any w3.heap.size own (Co.userLv v x.1) (Co.userLv u x.1) rb hco)
          generalize Co.userLv v x.1 = was at *
          generalize Co.userLv u x.1 = is_ at *
          cases hbr : Co.barred own was is_ with
          | true =>
           rw [hbr] at HBR
           have HRB : Hid (R = 20) := hid (by rw [HR.out]; exact change_bad (.inr (.inr (.inl (any_of HMEM.out (by rw [hown, HUB.out]; rw [hbr]; rfl))))))
           go_wp2_with fail
           refine HBR.out.mono ?_
           rintro e rc ⟨rfl, rfl⟩
           go_wp2_with fail
           try rw [Exit.noGoto_ret]
           go_ret
           exact ⟨ret_int HRB.out.symm, HBW6.out.trans ((HB8.out.trans (HBb.out.mono HB8.out.size)).mono HBW6.out.size)⟩
          | false =>
           rw [hbr] at HBR
           by_cases hwi : was = is_
           ·subst hwi
            have hn1 : (was != was) = false := by simp
            have HJN : Hid ((v.users.take (j + 1)).any (Co.userBad v u own user) = false) := hid (by rw [HST.out, HJ.out, HUB.out]; rw [hbr, hn1]; rfl)
            go_wp2_with fail
            refine HBR.out.mono ?_
            rintro e rc ⟨rfl, rfl⟩
            go_wp2_with fail
            go_roundw
            case rel => exact ⟨j + 1, hcj, rfl, by go_num, HJN, HB8.out.trans (HBb.out.mono HB8.out.size)⟩
            case measure => simp [RowKit.intOf]; omega
           have hn1 := neb_true hwi
           clear hwi
           have hsd := str_dec x.1 (bstr user)
           by_cases hxu : x.1 = user
           ·rw [show (bstr user).data.toList = user from rfl, decide_eq_true hxu] at hsd
            have hxe := hid (beq_iff_eq.2 hxu)
            clear hxu
            have HJN : Hid ((v.users.take (j + 1)).any (Co.userBad v u own user) = false) := hid (by rw [HST.out, HJ.out, HUB.out]; rw [hbr, hn1, hxe.out]; rfl)
            go_wp2_with fail
            refine HBR.out.mono ?_
            rintro e rc ⟨rfl, rfl⟩
            go_wp2_with fail
            go_roundw
            case rel => exact ⟨j + 1, hcj, rfl, by go_num, HJN, HB8.out.trans (HBb.out.mono HB8.out.size)⟩
            case measure => simp [RowKit.intOf]; omega
           rw [show (bstr user).data.toList = user from rfl, decide_eq_false hxu] at hsd
           have hxe := hid (beq_eq_false_iff_ne.2 hxu)
           clear hxu
           by_cases how : own ≤ was
           ·have hod : decide (own ≤ was) = true := decide_eq_true how
            have HRB : Hid (R = 20) := hid (by rw [HR.out]; exact change_bad (.inr (.inr (.inl (any_of HMEM.out (by rw [hown, HUB.out]; rw [hbr, hn1, hxe.out, hod]; rfl))))))
            go_wp2_with fail
            refine HBR.out.mono ?_
            rintro e rc ⟨rfl, rfl⟩
            go_wp2_with fail
            try rw [Exit.noGoto_ret]
            go_ret
            exact ⟨ret_int HRB.out.symm, HBW6.out.trans ((HB8.out.trans (HBb.out.mono HB8.out.size)).mono HBW6.out.size)⟩
           ·have hod : decide (own ≤ was) = false := decide_eq_false how
            have HJN : Hid ((v.users.take (j + 1)).any (Co.userBad v u own user) = false) := hid (by rw [HST.out, HJ.out, HUB.out]; rw [hbr, hn1, hxe.out, hod]; rfl)
            go_wp2_with fail
            refine HBR.out.mono ?_
            rintro e rc ⟨rfl, rfl⟩
            go_wp2_with fail
            go_roundw
            case rel => exact ⟨j + 1, hcj, rfl, by go_num, HJN, HB8.out.trans (HBb.out.mono HB8.out.size)⟩
            case measure => simp [RowKit.intOf]; omega
         ·obtain rfl : j = v.users.length := by omega
          have HJF : Hid (v.users.any (Co.userBad v u own user) = false) := hid (by have := HJ.out; rwa [List.take_length] at this)
          go_wp2_with fail
          go_roundw
          case rel => exact ⟨1, by omega, rfl, rfl, hid (fun _ => HJF.out), hid (fun h => absurd h (by omega)), HB7.out⟩
          case measure => simp [RowKit.intOf]
       ·rw [show ((1 : Nat) : Int) = 1 from rfl]
        have hix : ∀ W, (Instr.index 103 (.agg #[.slice Avu v.users.length cpvu, .slice Auu u.users.length cpuu]) (.int .i64 1)).run Tryz.prog W = .ok (.slice Auu u.users.length cpuu) W := fun _ => by kernel_rfl
        go_wp2_with fail
        have hLN : u.users.length ≤ 1000000 := HUS.out.1
        go_loopw [16, 79] (fun tx jx wr => ∃ j : Nat, j ≤ u.users.length ∧ tx = .bool false ∧ jx = .int .i64 (j : Int) ∧ Hid ((u.users.take j).any (Co.userBad v u own user) = false) ∧ Below w6.heap.size w6 wr) (fun _ jx _ => u.users.length - (RowKit.intOf jx).toNat)
        case atStart => exact ⟨0, Nat.zero_le _, rfl, rfl, hid rfl, HB6.out⟩
        case round =>
         obtain ⟨j, hj, rfl, rfl, HJ, hb⟩ := hrel
         have HB7 := hid hb
         obtain ⟨w7, hw7⟩ : ∃ x, x = wr := ⟨_, rfl⟩
         subst hw7
         by_cases hlj : j < u.users.length
         ·obtain ⟨x, hx⟩ : ∃ x, u.users[j]? = some x := ⟨_, List.getElem?_eq_getElem hlj⟩
          have hrd := HRUU.out.below hb
          have e0 := usrL_at hx (j := 0) (by decide)
          have e1 := usrL_at hx (j := 1) (by decide)
          obtain ⟨b, off, rfl, hx0⟩ := hrd.2 _ _ e0
          have hx1 : w7.cell? ⟨b, off + j * 2 + 1, none⟩ = some (.int .i64 x.2) := by
           obtain ⟨b', off', e, hx1⟩ := hrd.2 _ _ e1
           injection e with e
           injection e with e2 e3
           subst e2 e3
           exact hx1
          have hx0 : w7.cell? ⟨b, off + j * 2, none⟩ = some (.string (bstr x.1)) := hx0
          have HST := hid (any_snoc (p := Co.userBad v u own user) hx)
          have hcj : j + 1 ≤ u.users.length := hlj
          have hb8 := (Below.refl w7.heap.size w7).alloc (Nat.le_refl _) (.cells #[.string (bstr x.1), .int .i64 x.2] 49)
          have HB8 := hid (HB7.out.trans (hb8.mono HB7.out.size))
          have HK8 := hid (Blk.new w7 49 #[.string (bstr x.1), .int .i64 x.2])
          have HMEM := hid (List.mem_of_getElem? hx)
          clear hb hrd e0 e1 hx hb8
          generalize hw8 : w7.alloc (.cells #[.string (bstr x.1), .int .i64 x.2] 49) = w8 at *
          have HK18 := hid (HK16.out.below HB8.out HK16.out.lt)
          have HK28 := hid (HK26.out.below HB8.out HK26.out.lt)
          have HK38 := hid (HK36.out.below HB8.out HK36.out.lt)
          have HV8 := hid (HV6.out.bel HB8.out)
          have HU8 := hid (HU6.out.bel HB8.out)
          have HUB : Hid (Co.userBad v u own user x = (Co.barred own (Co.userLv v x.1) (Co.userLv u x.1) || (Co.userLv v x.1 != Co.userLv u x.1 && (!(x.1 == user) && decide (own ≤ Co.userLv v x.1))))) := hid rfl
          go_upto_region 27 with fail
          refine wp_region_noPanic ?_
          refine wp_region_held_drew (S := fun W => Below w8.heap.size w8 W) (by kernel_rfl) ((Below.refl _ _).drew) (fun hHeld => ?_)
          generalize hwd : w8.drew = wd at *
          have HBd := hid hHeld
          refine wpAnyH_take (i := 0) (oi := _) (v := _) rfl (by kernel_rfl) (by kernel_rfl) (by kernel_rfl) (fun _ _ _ h => h) (row_yields_u (X := XV.toArray) rfl Tryz.underlying28 HSV.out (fun W h => HK18.out.below h HK18.out.lt) (by kernel_rfl) _ rfl rfl) hHeld ?_
          (try simp only [Act.put, pk1, pk2, pk3, pk4, pk5, pk6])
          refine wpAnyH_take (i := 1) (oi := _) (v := ?_) rfl (by kernel_rfl) (by kernel_rfl) (by kernel_rfl) (fun _ _ _ h => h) (Or.inl ⟨by kernel_rfl, ?_⟩) hHeld ?_
          rotate_left
          ·intro wq hSw
           go_simp
           (try with_reducible rfl)
          (try simp only [Act.put, pk1, pk2, pk3, pk4, pk5, pk6])
          refine wpAnyH_take (i := 2) (oi := _) (v := ?_) rfl (by kernel_rfl) (by kernel_rfl) (by kernel_rfl) (fun _ _ _ h => h) (Or.inl ⟨by kernel_rfl, ?_⟩) hHeld ?_
          rotate_left
          ·intro wq hSw
           have hx0 : wq.cell? ⟨w7.heap.size, 0, none⟩ = some (.string (bstr x.1)) := (Below.cell hSw (p := ⟨w7.heap.size, 0, none⟩) HK8.out.lt).trans (HK8.out.cell 0)
           go_simp
           (try with_reducible rfl)
          (try simp only [Act.put, pk1, pk2, pk3, pk4, pk5, pk6])
          refine wpAnyH_take (i := 4) (oi := _) (v := _) rfl (by kernel_rfl) (by kernel_rfl) (by kernel_rfl) (fun _ _ _ h => h) (row_yields_u (X := XU.toArray) rfl Tryz.underlying28 HSU.out (fun W h => HK28.out.below h HK28.out.lt) (by kernel_rfl) _ rfl rfl) hHeld ?_
          (try simp only [Act.put, pk1, pk2, pk3, pk4, pk5, pk6])
          refine wpAnyH_take (i := 5) (oi := _) (v := ?_) rfl (by kernel_rfl) (by kernel_rfl) (by kernel_rfl) (fun _ _ _ h => h) (Or.inl ⟨by kernel_rfl, ?_⟩) hHeld ?_
          rotate_left
          ·intro wq hSw
           go_simp
           (try with_reducible rfl)
          (try simp only [Act.put, pk1, pk2, pk3, pk4, pk5, pk6])
          refine wpAnyH_take (i := 6) (oi := _) (v := ?_) rfl (by kernel_rfl) (by kernel_rfl) (by kernel_rfl) (fun _ _ _ h => h) (Or.inl ⟨by kernel_rfl, ?_⟩) hHeld ?_
          rotate_left
          ·intro wq hSw
           have hx0 : wq.cell? ⟨w7.heap.size, 0, none⟩ = some (.string (bstr x.1)) := (Below.cell hSw (p := ⟨w7.heap.size, 0, none⟩) HK8.out.lt).trans (HK8.out.cell 0)
           go_simp
           (try with_reducible rfl)
          (try simp only [Act.put, pk1, pk2, pk3, pk4, pk5, pk6])
          refine wpAnyH_ready (rs := [3]) (by kernel_rfl) (by simp) ?_
          refine AllReadyH.cons (o := _) rfl (fun K hK => ?_) AllReadyH.nil
          go_simp
          go_at_call 20
          refine (lvuser_any ok v XV x.1 wd (HV8.out.bel HBd.out) HVS.out.1).mono ?_
          rintro e ra ⟨rfl, hba⟩
          have HBa := hid (HBd.out.trans (hba.mono HBd.out.size))
          clear hba
          refine hK.out _ _ (HBa.out) (fun hHeld2 => ?_)
          clear hK K hHeld
          have hHeld := hHeld2
          clear hHeld2
          (try simp only [Act.put, pk1, pk2, pk3, pk4, pk5, pk6])
          refine wpAnyH_ready (rs := [7]) (by kernel_rfl) (by simp) ?_
          refine AllReadyH.cons (o := _) rfl (fun K hK => ?_) AllReadyH.nil
          go_simp
          go_at_call 20
          refine (lvuser_any ok u XU x.1 ra (HU8.out.bel HBa.out) HUS.out.1).mono ?_
          rintro e rb ⟨rfl, hbb⟩
          have HBb := hid (HBa.out.trans (hbb.mono HBa.out.size))
          clear hbb
          refine hK.out _ _ (HBb.out) (fun hHeld2 => ?_)
          clear hK K hHeld
          have hHeld := hHeld2
          clear hHeld2
          (try simp only [Act.put, pk1, pk2, pk3, pk4, pk5, pk6])
          refine wpAnyH_take (i := 8) (oi := _) (v := ?_) rfl (by kernel_rfl) (by kernel_rfl) (by kernel_rfl) (fun _ _ _ h => h) (Or.inl ⟨by kernel_rfl, ?_⟩) hHeld ?_
          rotate_left
          ·intro wq hSw
           go_simp
           (try with_reducible rfl)
          (try simp only [Act.put, pk1, pk2, pk3, pk4, pk5, pk6])
          refine wpAnyH_take (i := 9) (oi := _) (v := ?_) rfl (by kernel_rfl) (by kernel_rfl) (by kernel_rfl) (fun _ _ _ h => h) (Or.inl ⟨by kernel_rfl, ?_⟩) hHeld ?_
          rotate_left
          ·intro wq hSw
           go_simp
           (try with_reducible rfl)
          (try simp only [Act.put, pk1, pk2, pk3, pk4, pk5, pk6])
          refine wpAnyH_done (by kernel_rfl) ?_ _
          refine NoPanic.normal ?_
          have hxs : rb.cell? ⟨w7.heap.size, 0, none⟩ = some (.string (bstr x.1)) := (Below.cell HBb.out (p := ⟨w7.heap.size, 0, none⟩) HK8.out.lt).trans (HK8.out.cell 0)
          have hco : rb.cell? ⟨w3.heap.size, 0, none⟩ = some (.int .i64 own) := (Below.cell HBb.out (p := ⟨w3.heap.size, 0, none⟩) HK38.out.lt).trans (HK38.out.cell 0)
          have HBR := hid (barred_any w3.heap.size own (Co.userLv v x.1) (Co.userLv u x.1) rb hco)
          generalize Co.userLv v x.1 = was at *
          generalize Co.userLv u x.1 = is_ at *
          cases hbr : Co.barred own was is_ with
          | true =>
           rw [hbr] at HBR
           have HRB : Hid (R = 20) := hid (by rw [HR.out]; exact change_bad (.inr (.inr (.inr (any_of HMEM.out (by rw [hown, HUB.out]; rw [hbr]; rfl))))))
           go_wp2_with fail
           refine HBR.out.mono ?_
           rintro e rc ⟨rfl, rfl⟩
           go_wp2_with fail
           try rw [Exit.noGoto_ret]
           go_ret
           exact ⟨ret_int HRB.out.symm, HBW6.out.trans ((HB8.out.trans (HBb.out.mono HB8.out.size)).mono HBW6.out.size)⟩
          | false =>
           rw [hbr] at HBR
           by_cases hwi : was = is_
           ·subst hwi
            have hn1 : (was != was) = false := by simp
            have HJN : Hid ((u.users.take (j + 1)).any (Co.userBad v u own user) = false) := hid (by rw [HST.out, HJ.out, HUB.out]; rw [hbr, hn1]; rfl)
            go_wp2_with fail
            refine HBR.out.mono ?_
            rintro e rc ⟨rfl, rfl⟩
            go_wp2_with fail
            go_roundw
            case rel => exact ⟨j + 1, hcj, rfl, by go_num, HJN, HB8.out.trans (HBb.out.mono HB8.out.size)⟩
            case measure => simp [RowKit.intOf]; omega
           have hn1 := neb_true hwi
           clear hwi
           have hsd := str_dec x.1 (bstr user)
           by_cases hxu : x.1 = user
           ·rw [show (bstr user).data.toList = user from rfl, decide_eq_true hxu] at hsd
            have hxe := hid (beq_iff_eq.2 hxu)
            clear hxu
            have HJN : Hid ((u.users.take (j + 1)).any (Co.userBad v u own user) = false) := hid (by rw [HST.out, HJ.out, HUB.out]; rw [hbr, hn1, hxe.out]; rfl)
            go_wp2_with fail
            refine HBR.out.mono ?_
            rintro e rc ⟨rfl, rfl⟩
            go_wp2_with fail
            go_roundw
            case rel => exact ⟨j + 1, hcj, rfl, by go_num, HJN, HB8.out.trans (HBb.out.mono HB8.out.size)⟩
            case measure => simp [RowKit.intOf]; omega
           rw [show (bstr user).data.toList = user from rfl, decide_eq_false hxu] at hsd
           have hxe := hid (beq_eq_false_iff_ne.2 hxu)
           clear hxu
           by_cases how : own ≤ was
           ·have hod : decide (own ≤ was) = true := decide_eq_true how
            have HRB : Hid (R = 20) := hid (by rw [HR.out]; exact change_bad (.inr (.inr (.inr (any_of HMEM.out (by rw [hown, HUB.out]; rw [hbr, hn1, hxe.out, hod]; rfl))))))
            go_wp2_with fail
            refine HBR.out.mono ?_
            rintro e rc ⟨rfl, rfl⟩
            go_wp2_with fail
            try rw [Exit.noGoto_ret]
            go_ret
            exact ⟨ret_int HRB.out.symm, HBW6.out.trans ((HB8.out.trans (HBb.out.mono HB8.out.size)).mono HBW6.out.size)⟩
           ·have hod : decide (own ≤ was) = false := decide_eq_false how
            have HJN : Hid ((u.users.take (j + 1)).any (Co.userBad v u own user) = false) := hid (by rw [HST.out, HJ.out, HUB.out]; rw [hbr, hn1, hxe.out, hod]; rfl)
            go_wp2_with fail
            refine HBR.out.mono ?_
            rintro e rc ⟨rfl, rfl⟩
            go_wp2_with fail
            go_roundw
            case rel => exact ⟨j + 1, hcj, rfl, by go_num, HJN, HB8.out.trans (HBb.out.mono HB8.out.size)⟩
            case measure => simp [RowKit.intOf]; omega
         ·obtain rfl : j = u.users.length := by omega
          have HJF : Hid (u.users.any (Co.userBad v u own user) = false) := hid (by have := HJ.out; rwa [List.take_length] at this)
          go_wp2_with fail
          go_roundw
          case rel => exact ⟨2, by omega, rfl, rfl, hid (fun _ => HI0.out (by omega)), hid (fun _ => HJF.out), HB7.out⟩
          case measure => simp [RowKit.intOf]
       ·rw [show ((2 : Nat) : Int) = 2 from rfl]
        have HRB : Hid (R = 0) := hid (by rw [HR.out]; exact change_good (by rw [hown]; exact HNF.out) (by rw [hown]; exact HKV.out) (by rw [hown]; exact HKU.out) (by rw [hown]; exact HI0.out (by omega)) (by rw [hown]; exact HI1.out (by omega)))
        go_wp2_with fail
        try rw [Exit.noGoto_ret]
        go_ret
        exact ⟨ret_int HRB.out.symm, HBW6.out.trans (HB6.out.mono HBW6.out.size)⟩
end Go.Proofs.YtacjhbbieeliaaaGreatDoor
/- The text Nf. -/
namespace Go.Proofs.YtacjhbbieeliaaaGreatDoor
open Go.RowKit Go.Lib
set_option linter.unusedVariables false
set_option linter.unusedSimpArgs false
theorem alevel_any (ok : Nat → Prop) (e : Co.Ev) (l : List Co.Ev) (A : Option Addr) (cap : Nat) (X : List Value) (w : World) (hX : EvV ok w X e) (h : EvRow ok w A l) (hl : l.length ≤ 1000000) (hs : ∀ x ∈ l, x.users.length ≤ 1000000 ∧ x.kinds.length ≤ 1000000) (hes : e.users.length ≤ 1000000 ∧ e.kinds.length ≤ 1000000) :
  Calls Tryz.prog 42 #[.agg X.toArray, .slice A l.length cap] w fun r w' => r = .returned (.int .i64 (Co.levelE e l)) ∧ Below w.heap.size w w' := by
 have hb1 := (Below.refl w.heap.size w).alloc (Nat.le_refl _) (.cells X.toArray 34)
 have HB1 := hid hb1
 have HE1 := hid (Blk.new w 34 X.toArray)
 have HX1 := hid (hX.bel hb1)
 have HLO := hid (lvof_any ok l A cap _ (h.bel hb1) hl hs)
 have HLS := hid (lv_small hs)
 have HES := hid hes
 have HWS : Hid (w.heap.size < (w.alloc (.cells X.toArray 34)).heap.size) := hid (by simp)
 obtain ⟨R, hR⟩ : ∃ R, R = Co.levelE e l := ⟨_, rfl⟩
 have HR : Hid (R = if Co.userLv (Co.levelsOf l) e.sender < Co.needs (Co.levelsOf l) e.kind then 20 else if e.kind = 3 then Co.changeE (Co.levelsOf l) (Co.lvOf e) e.sender else 0) := hid hR
 rw [← hR]
 clear hX h hs hes hR hb1
 generalize hw1 : w.alloc (.cells X.toArray 34) = w1 at *
 go_enter Tryz.func42, Tryz.ntmps42
 go_wp2_with fail
 refine HLO.out.mono ?_
 rintro r w3 ⟨⟨Y, rfl, hY⟩, hb3⟩
 have HSY := hid (size_lvX hY)
 have HSZ : Hid (zLv.size = Y.toArray.size) := hid (by show 9 = Y.toArray.size; rw [List.size_toArray, hY.len])
 have HOV : Hid (Y.toArray.all (·.oneCell') = true) := hid (all_oneCell_toArray hY.one)
 have HNEW := hid (Blk.new w3 28 zLv)
 have hb4 := below_setRow (g := w3.heap.size) ((Below.refl w3.heap.size w3).alloc (Nat.le_refl _) (.cells zLv 28)) (Nat.le_refl _) Y.toArray
 have HY4 : Hid (Blk ((w3.alloc (.cells zLv 28)).setRow w3.heap.size Y.toArray) w3.heap.size 28 Y.toArray) := hid (setRow_heap _ _ _ _ _ _ HNEW.out)
 have HB14 := hid (hb3.trans (hb4.mono hb3.size))
 have HB4 := hid (HB1.out.trans (HB14.out.mono HB1.out.size))
 have HE4 := hid (HE1.out.below HB14.out HWS.out)
 have HX4 := hid (HX1.out.bel HB14.out)
 have HV4 := hid (hY.bel hb4)
 have HE42 : Hid (((w3.alloc (.cells zLv 28)).setRow w3.heap.size Y.toArray).cell? ⟨w.heap.size, 2, none⟩ = some (.string (bstr e.sender))) := hid ((HE4.out.cell 2).trans (by rw [List.getElem?_toArray]; exact HX4.out.c2))
 have HE43 : Hid (((w3.alloc (.cells zLv 28)).setRow w3.heap.size Y.toArray).cell? ⟨w.heap.size, 3, none⟩ = some (.int .i64 e.kind)) := hid ((HE4.out.cell 3).trans (by rw [List.getElem?_toArray]; exact HX4.out.c3))
 clear hY hb3 hb4
 generalize hw4 : (w3.alloc (.cells zLv 28)).setRow w3.heap.size Y.toArray = w4 at *
 go_upto_region 2 with ((with_reducible refine store_rowe rfl 28 _ _ rfl w3.heap.size Y.toArray ?_ ?_ 28 zLv HNEW.out HSY.out HSZ.out HOV.out ?_); rfl; rfl; rw [hw4])
 refine wp_region_noPanic ?_
 refine wp_region_held_drew (S := fun W => Below w4.heap.size w4 W) (by kernel_rfl) ((Below.refl _ _).drew) (fun hHeld => ?_)
 generalize hwd : w4.drew = wd at *
 have HBd := hid hHeld
 refine wpAnyH_take (i := 0) (oi := _) (v := _) rfl (by kernel_rfl) (by kernel_rfl) (by kernel_rfl) (fun _ _ _ h => h) (row_yields_u (X := Y.toArray) rfl Tryz.underlying28 HSY.out (fun W h => HY4.out.below h HY4.out.lt) (by kernel_rfl) _ rfl rfl) hHeld ?_
 (try simp only [Act.put, pk1, pk2, pk3, pk4, pk5, pk6])
 refine wpAnyH_take (i := 1) (oi := _) (v := ?_) rfl (by kernel_rfl) (by kernel_rfl) (by kernel_rfl) (fun _ _ _ h => h) (Or.inl ⟨by kernel_rfl, ?_⟩) hHeld ?_
 rotate_left
 ·intro wq hSw
  go_simp
  (try with_reducible rfl)
 (try simp only [Act.put, pk1, pk2, pk3, pk4, pk5, pk6])
 refine wpAnyH_take (i := 2) (oi := _) (v := ?_) rfl (by kernel_rfl) (by kernel_rfl) (by kernel_rfl) (fun _ _ _ h => h) (Or.inl ⟨by kernel_rfl, ?_⟩) hHeld ?_
 rotate_left
 ·intro wq hSw
  have hx2 : wq.cell? ⟨w.heap.size, 2, none⟩ = some (.string (bstr e.sender)) := (Below.cell hSw (p := ⟨w.heap.size, 2, none⟩) HE4.out.lt).trans (HE42.out)
  go_simp
  (try with_reducible rfl)
 (try simp only [Act.put, pk1, pk2, pk3, pk4, pk5, pk6])
 refine wpAnyH_take (i := 4) (oi := _) (v := _) rfl (by kernel_rfl) (by kernel_rfl) (by kernel_rfl) (fun _ _ _ h => h) (row_yields_u (X := Y.toArray) rfl Tryz.underlying28 HSY.out (fun W h => HY4.out.below h HY4.out.lt) (by kernel_rfl) _ rfl rfl) hHeld ?_
 (try simp only [Act.put, pk1, pk2, pk3, pk4, pk5, pk6])
 refine wpAnyH_take (i := 5) (oi := _) (v := ?_) rfl (by kernel_rfl) (by kernel_rfl) (by kernel_rfl) (fun _ _ _ h => h) (Or.inl ⟨by kernel_rfl, ?_⟩) hHeld ?_
 rotate_left
 ·intro wq hSw
  go_simp
  (try with_reducible rfl)
 (try simp only [Act.put, pk1, pk2, pk3, pk4, pk5, pk6])
 refine wpAnyH_take (i := 6) (oi := _) (v := ?_) rfl (by kernel_rfl) (by kernel_rfl) (by kernel_rfl) (fun _ _ _ h => h) (Or.inl ⟨by kernel_rfl, ?_⟩) hHeld ?_
 rotate_left
 ·intro wq hSw
  have hx3 : wq.cell? ⟨w.heap.size, 3, none⟩ = some (.int .i64 e.kind) := (Below.cell hSw (p := ⟨w.heap.size, 3, none⟩) HE4.out.lt).trans (HE43.out)
  go_simp
  (try with_reducible rfl)
 (try simp only [Act.put, pk1, pk2, pk3, pk4, pk5, pk6])
 refine wpAnyH_ready (rs := [3]) (by kernel_rfl) (by simp) ?_
 refine AllReadyH.cons (o := _) rfl (fun K hK => ?_) AllReadyH.nil
 go_simp
 go_at_call 20
 refine (lvuser_any _ (Co.levelsOf l) Y e.sender wd (HV4.out.bel HBd.out) HLS.out.1).mono ?_
 rintro r ra ⟨rfl, hba⟩
 have HBa := hid (HBd.out.trans (hba.mono HBd.out.size))
 clear hba
 refine hK.out _ _ (HBa.out) (fun hHeld2 => ?_)
 clear hK K hHeld
 have hHeld := hHeld2
 clear hHeld2
 (try simp only [Act.put, pk1, pk2, pk3, pk4, pk5, pk6])
 refine wpAnyH_ready (rs := [7]) (by kernel_rfl) (by simp) ?_
 refine AllReadyH.cons (o := _) rfl (fun K hK => ?_) AllReadyH.nil
 go_simp
 go_at_call 21
 refine (needs_any _ (Co.levelsOf l) Y e.kind ra (HV4.out.bel HBa.out) HLS.out.2).mono ?_
 rintro r rb ⟨rfl, hbb⟩
 have HBb := hid (HBa.out.trans (hbb.mono HBa.out.size))
 clear hbb
 refine hK.out _ _ (HBb.out) (fun hHeld2 => ?_)
 clear hK K hHeld
 have hHeld := hHeld2
 clear hHeld2
 (try simp only [Act.put, pk1, pk2, pk3, pk4, pk5, pk6])
 refine wpAnyH_take (i := 8) (oi := _) (v := ?_) rfl (by kernel_rfl) (by kernel_rfl) (by kernel_rfl) (fun _ _ _ h => h) (Or.inl ⟨by kernel_rfl, ?_⟩) hHeld ?_
 rotate_left
 ·intro wq hSw
  go_simp
  (try with_reducible rfl)
 (try simp only [Act.put, pk1, pk2, pk3, pk4, pk5, pk6])
 refine wpAnyH_done (by kernel_rfl) ?_ _
 refine NoPanic.normal ?_
 have HBW := hid (HB4.out.trans (HBb.out.mono HB4.out.size))
 generalize Co.userLv (Co.levelsOf l) e.sender = ul at *
 generalize Co.needs (Co.levelsOf l) e.kind = nd at *
 by_cases hlt : ul < nd
 ·have HRB : Hid (R = 20) := hid (by rw [HR.out, if_pos hlt])
  go_wp2_with fail
  go_ret
  exact ⟨ret_int HRB.out.symm, HBW.out⟩
 ·have hc3 : rb.cell? ⟨w.heap.size, 3, none⟩ = some (.int .i64 e.kind) := (Below.cell HBb.out (p := ⟨w.heap.size, 3, none⟩) HE4.out.lt).trans HE43.out
  by_cases hk3 : e.kind = 3
  ·have HRB : Hid (R = Co.changeE (Co.levelsOf l) (Co.lvOf e) e.sender) := hid (by rw [HR.out, if_neg hlt, if_pos hk3])
   have hkb := eqb_true hk3
   have hc2 : rb.cell? ⟨w.heap.size, 2, none⟩ = some (.string (bstr e.sender)) := (Below.cell HBb.out (p := ⟨w.heap.size, 2, none⟩) HE4.out.lt).trans HE42.out
   have HEb := hid (HE4.out.below HBb.out HE4.out.lt)
   have HYb := hid (HY4.out.below HBb.out HY4.out.lt)
   have HVb := hid (HV4.out.bel HBb.out)
   obtain ⟨Z, hrz, hz⟩ := ev_lv (HX4.out.bel HBb.out) (range_of_blk HEb.out)
   have hrz' : rb.rangeAt w.heap.size 17 Z := by have := hrz; rwa [Nat.zero_add] at this
   have HLZ : Hid ((Tryz.prog.info? 28).map (·.size) = some Z.length) := hid (by rw [size_lv, hz.len])
   have HCH := hid (change_any (fun _ => True) (Co.levelsOf l) (Co.lvOf e) Y Z e.sender rb (HVb.out.keep fun _ _ _ => ⟨trivial, rfl⟩) (hz.keep fun _ _ _ => ⟨trivial, rfl⟩) HLS.out ⟨HES.out.1, HES.out.2⟩)
   clear hk3 hz hrz
   generalize Co.changeE (Co.levelsOf l) (Co.lvOf e) e.sender = CE at *
   go_wp2_with (first
    | (refine wpList_load_row rfl 28 _ rfl w3.heap.size rfl 28 Y.toArray (0, 0) _ HYb.out Tryz.underlying28 rfl HSY.out ?_)
    | ((with_reducible refine wpList_load_mid rfl 28 _ rfl w.heap.size 17 ?_ Z _ hrz' Tryz.underlying28 ?_ HLZ.out ?_); rfl; rfl))
   refine HCH.out.mono ?_
   rintro r rc ⟨rfl, hbc⟩
   have HBc := hid (HBW.out.trans (hbc.mono HBW.out.size))
   clear hbc
   go_wp2_with fail
   go_ret
   exact ⟨ret_int HRB.out.symm, HBc.out⟩
  ·have HRB : Hid (R = 0) := hid (by rw [HR.out, if_neg hlt, if_neg hk3])
   have hkb := eqb_false hk3
   clear hk3
   go_wp2_with fail
   go_ret
   exact ⟨ret_int HRB.out.symm, HBW.out⟩
end Go.Proofs.YtacjhbbieeliaaaGreatDoor
