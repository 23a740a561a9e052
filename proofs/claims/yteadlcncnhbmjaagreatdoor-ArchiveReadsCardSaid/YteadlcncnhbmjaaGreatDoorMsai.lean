/- The texts Aw9, Awa, An1, An2, An3 of this proof, one behind the other. -/
import Derived.Test.YteadlcncnhbmjaaGreatDoorMsah
set_option linter.unusedSimpArgs false
set_option maxHeartbeats 16000000
set_option maxRecDepth 100000
set_option linter.unusedVariables false
namespace Go.Proofs.YteadlcncnhbmjaaGreatDoor
open Go.RowKit Go.Lib
theorem Ms : (Tryz.prog.info? 77).map (·.size) = some 2 := by kernel_rfl
theorem N4 : (Tryz.prog.info? 211).map (·.size) = some 2 := by kernel_rfl
theorem MS (g bx : Nat) (r : Ar.RS) (w : World) (h : RdS w g r) (hl : r.1.length ≤ 1000000) (hRd : Ready w) (hg3 : 3 ≤ g) (hbx : w.cell? ⟨bx, 0, none⟩ = some (.pointer (some ⟨g, 0, none⟩))) (hne : bx ≠ g) :
  Calls Tryz.prog 223 #[.pointer (some ⟨bx, 0, none⟩)] w fun e w' => e = .returned (.agg #[.string (bstr (Ar.rusr r).1.1), .int .i64 (Ar.rusr r).1.2]) ∧ RdS w' g (Ar.rusr r).2 ∧ w.grownBy w' (some g) := by
 have hlt := h.lt;have hga := World.grownBy_alloc w (.cells #[.string ByteArray.empty, .int .i64 0] 77) (some g);have hr1 := h.keep (World.grownBy_alloc w (.cells #[.string ByteArray.empty, .int .i64 0] 77) none) (by simp);have hk1 := Blk.new w 77 #[.string ByteArray.empty, .int .i64 0];have hb1 := hga.cell hbx (by simpa using hne);have hy1 := hRd.grown hga (fun j e => by injection e with e; omega);have hng : w.heap.size ≠ g := by omega
 have hTL := Ar.BY r;have hEL := Ar.Bn [58] (Ar.rtext r).2;have HR1 := hid hr1;have HK1 := hid hk1;have HGA := hid hga;have HY1 := hid hy1;have HB1 := hid hb1;have HNE := hid hne;have HNG := hid hng;have hbl : bx < w.heap.size := AV hbx;have hbn : ¬ bx = w.heap.size := by omega
 clear h hRd hr1 hk1 hga hy1 hne hng;go_enter Tryz.func223, Tryz.ntmps223;go_wp2_with fail;clear hb1;refine (Dp g r _ HR1.out hl).mono ?_;rintro e w2 ⟨rfl, hr2, hg2⟩;have HB2 := hid (hg2.cell HB1.out (by have := HNE.out; simpa using this));have HK2 := hid (HK1.out.grown hg2 (by have := HNG.out; simpa using this));have HY2 := hid (HY1.out.grown hg2 (fun j e => by injection e with e; omega));have HG2 := hid (HGA.out.trans hg2);have HR2 := hid hr2;clear hr2 hg2;have hb2 := HB2.out;go_wp2_with fail;refine (BK g ⟨#[58]⟩ (Ar.rtext r).2 _ HR2.out (by omega)).mono ?_;rintro e w3 ⟨rfl, hr3, hg3'⟩;rw [show (⟨#[58]⟩ : ByteArray).data.toList = [58] from rfl] at hr3;have HB3 := hid (hg3'.cell HB2.out (by have := HNE.out; simpa using this));have HK3 := hid (HK2.out.grown hg3' (by have := HNG.out; simpa using this));have HY3 := hid (HY2.out.grown hg3' (fun j e => by injection e with e; omega));have HG3 := hid (HG2.out.trans hg3');have HR3 := hid hr3;clear hr3 hg3' hb2;have hb3 := HB3.out;go_wp2_with fail;refine (Be g (Ar.eat [58] (Ar.rtext r).2) _ HR3.out (by omega) HY3.out).mono ?_;rintro e w4 ⟨rfl, hr4, hg4⟩;have hk4 := HK3.out.grown hg4 (by have := HNG.out; simpa using this);have HK4 := hid hk4;have HG4 := hid (HG3.out.trans hg4);have HR4 := hid hr4;have hc40 := hk4.cell 0;have hc41 := hk4.cell 1;have hf40 := hk4.frozen 0;have hf41 := hk4.frozen 1;clear hr4 hg4 hb3 hk4;go_wp2_with fail;have hk6 : Blk _ w.heap.size 77 #[.string (bstr (Ar.rtext r).1), .int .i64 (Ar.rnum (Ar.eat [58] (Ar.rtext r).2)).1] := (HK4.out.set_ 0 (.string (bstr (Ar.rtext r).1))).set_ 1 (.int .i64 (Ar.rnum (Ar.eat [58] (Ar.rtext r).2)).1);have hgs := (Az w4 w.heap.size 0 (.string (bstr (Ar.rtext r).1))).trans (Az _ w.heap.size 1 (.int .i64 (Ar.rnum (Ar.eat [58] (Ar.rtext r).2)).1));refine bodyPost_ret (v := .agg #[.string (bstr (Ar.rtext r).1), .int .i64 (Ar.rnum (Ar.eat [58] (Ar.rtext r).2)).1]) (results_cell_row rfl _ _ w.heap.size _ _ (0, 0) _ rfl hk6 Tryz.underlying77 rfl Ms) rfl ⟨rfl, ?_, ?_⟩
 ·exact HR4.out.keep hgs (fun e => HNG.out (by injection e with e; exact e.symm))
 ·exact HG4.out.andThen hgs (fun j e => .inl (by injection e with e; omega))
theorem MI (g bx : Nat) (r : Ar.RS) (w : World) (h : RdS w g r) (hl : r.1.length ≤ 1000000) (hRd : Ready w) (hg3 : 3 ≤ g) (hbx : w.cell? ⟨bx, 0, none⟩ = some (.pointer (some ⟨g, 0, none⟩))) (hne : bx ≠ g) :
  Calls Tryz.prog 229 #[.pointer (some ⟨bx, 0, none⟩)] w fun e w' => e = .returned (.agg #[.int .i64 (Ar.rknd r).1.1, .int .i64 (Ar.rknd r).1.2]) ∧ RdS w' g (Ar.rknd r).2 ∧ w.grownBy w' (some g) := by
 have hlt := h.lt;have hga := World.grownBy_alloc w (.cells #[.int .i64 0, .int .i64 0] 211) (some g);have hr1 := h.keep (World.grownBy_alloc w (.cells #[.int .i64 0, .int .i64 0] 211) none) (by simp);have hk1 := Blk.new w 211 #[.int .i64 0, .int .i64 0];have hb1 := hga.cell hbx (by simpa using hne);have hy1 := hRd.grown hga (fun j e => by injection e with e; omega);have hng : w.heap.size ≠ g := by omega
 have hTL := Ar.Bd r;have hEL := Ar.Bn [58] (Ar.rnum r).2;have HR1 := hid hr1;have HK1 := hid hk1;have HGA := hid hga;have HY1 := hid hy1;have HB1 := hid hb1;have HNE := hid hne;have HNG := hid hng;have hbl : bx < w.heap.size := AV hbx;have hbn : ¬ bx = w.heap.size := by omega
 clear h hRd hr1 hk1 hga hy1 hne hng;go_enter Tryz.func229, Tryz.ntmps229;go_wp2_with fail;clear hb1;refine (Be g r _ HR1.out hl HY1.out).mono ?_;rintro e w2 ⟨rfl, hr2, hg2⟩;have HB2 := hid (hg2.cell HB1.out (by have := HNE.out; simpa using this));have HK2 := hid (HK1.out.grown hg2 (by have := HNG.out; simpa using this));have HY2 := hid (HY1.out.grown hg2 (fun j e => by injection e with e; omega));have HG2 := hid (HGA.out.trans hg2);have HR2 := hid hr2;clear hr2 hg2;have hb2 := HB2.out;go_wp2_with fail;refine (BK g ⟨#[58]⟩ (Ar.rnum r).2 _ HR2.out (by omega)).mono ?_;rintro e w3 ⟨rfl, hr3, hg3'⟩;rw [show (⟨#[58]⟩ : ByteArray).data.toList = [58] from rfl] at hr3;have HB3 := hid (hg3'.cell HB2.out (by have := HNE.out; simpa using this));have HK3 := hid (HK2.out.grown hg3' (by have := HNG.out; simpa using this));have HY3 := hid (HY2.out.grown hg3' (fun j e => by injection e with e; omega));have HG3 := hid (HG2.out.trans hg3');have HR3 := hid hr3;clear hr3 hg3' hb2;have hb3 := HB3.out;go_wp2_with fail;refine (Be g (Ar.eat [58] (Ar.rnum r).2) _ HR3.out (by omega) HY3.out).mono ?_;rintro e w4 ⟨rfl, hr4, hg4⟩;have hk4 := HK3.out.grown hg4 (by have := HNG.out; simpa using this);have HK4 := hid hk4;have HG4 := hid (HG3.out.trans hg4);have HR4 := hid hr4;have hc40 := hk4.cell 0;have hc41 := hk4.cell 1;have hf40 := hk4.frozen 0;have hf41 := hk4.frozen 1;clear hr4 hg4 hb3 hk4;go_wp2_with fail;have hk6 : Blk _ w.heap.size 211 #[.int .i64 (Ar.rnum r).1, .int .i64 (Ar.rnum (Ar.eat [58] (Ar.rnum r).2)).1] := (HK4.out.set_ 0 (.int .i64 (Ar.rnum r).1)).set_ 1 (.int .i64 (Ar.rnum (Ar.eat [58] (Ar.rnum r).2)).1);have hgs := (Az w4 w.heap.size 0 (.int .i64 (Ar.rnum r).1)).trans (Az _ w.heap.size 1 (.int .i64 (Ar.rnum (Ar.eat [58] (Ar.rnum r).2)).1));refine bodyPost_ret (v := .agg #[.int .i64 (Ar.rnum r).1, .int .i64 (Ar.rnum (Ar.eat [58] (Ar.rnum r).2)).1]) (results_cell_row rfl _ _ w.heap.size _ _ (0, 0) _ rfl hk6 Tryz.underlying211 rfl N4) rfl ⟨rfl, ?_, ?_⟩
 ·exact HR4.out.keep hgs (fun e => HNG.out (by injection e with e; exact e.symm))
 ·exact HG4.out.andThen hgs (fun j e => .inl (by injection e with e; omega))
theorem OH (g : Nat) (r : Ar.RS) (w : World) (h : RdS w g r) (hl : r.1.length ≤ 1000000) (hRd : Ready w) (hg3 : 3 ≤ g) (bx : Nat) (hbx : w.cell? ⟨bx, 0, none⟩ = some (.pointer (some ⟨g, 0, none⟩))) (hne0 : bx ≠ g) :
  Calls Tryz.prog 222 #[.pointer (some ⟨g, 0, none⟩), .func (.func 223) #[] #[.pointer (some ⟨bx, 0, none⟩)]] w fun e w' =>
   (∃ v, e = .returned v ∧ w'.ownsRow w.heap.size 77 2 v (Ar.Au Ar.rusr (r.1.length + 1) r).1.length (usrL (Ar.Au Ar.rusr (r.1.length + 1) r).1)) ∧ RdS w' g (Ar.Au Ar.rusr (r.1.length + 1) r).2 ∧ w.grownBy w' (some g) := by
 have HF := hid (Dr Ar.rusr Ar.Et r);have hlt := h.lt;have hol := Ar.Et r;have HR0 := hid h;have HRY := hid hRd;have hbl : bx < w.heap.size := AV hbx;have HBX := hid hbx;have HBN := hid hne0;clear hbx hne0;clear h hRd;go_enter Tryz.func222, Tryz.ntmps222;go_wp2_with fail;refine (MS g bx r _ HR0.out hl HRY.out hg3 HBX.out HBN.out).mono ?_;rintro e w1 ⟨rfl, hr1, hg1⟩;have hs1 := hg1.size;have HR1 := hid hr1;have HG1 := hid hg1;have HOL : Hid ((w1.alloc (.cells (usrL [(Ar.rusr r).1]).toArray 77)).ownsRow w.heap.size 77 2 (.slice (some ⟨w1.heap.size, 0, none⟩) 1 1) 1 (usrL [(Ar.rusr r).1])) := hid (World.ownsRow_lit (base := w.heap.size) (e := 77) (size := 2) w1 (usrL [(Ar.rusr r).1]).toArray 1 hs1 (by decide) rfl);have HBX1 := hid (hg1.cell HBX.out (by have := HBN.out; simpa using this));clear hr1 hg1;go_wp2_with fail
 go_loopw [5] (fun out wr => ∃ (xs : List (List UInt8 × Int)) (r1 : Ar.RS), Hid (Ar.Au Ar.rusr (r.1.length + 1) r = tailL Ar.rusr xs r1) ∧ wr.ownsRow w.heap.size 77 2 out xs.length (usrL xs) ∧ RdS wr g r1 ∧ w.grownBy wr (some g) ∧ Ready wr ∧ r1.1.length + xs.length ≤ 1000001 ∧ 1 ≤ xs.length ∧ wr.cell? ⟨bx, 0, none⟩ = some (.pointer (some ⟨g, 0, none⟩))) (fun _ wr => rdLen wr g)
 case atStart =>
  have hga := HG1.out.andThen (World.grownBy_alloc w1 (.cells (usrL [(Ar.rusr r).1]).toArray 77) none) (fun j e => by cases e);exact ⟨[(Ar.rusr r).1], (Ar.rusr r).2, HF, HOL.out, HR1.out.keep (World.grownBy_alloc w1 _ none) (by simp), hga, HRY.out.grown hga (fun j e => by injection e with e; omega), by simp; omega, by simp, (World.grownBy_alloc w1 _ none).cell HBX1.out (by simp)⟩
 case round =>
  obtain ⟨xs, r1, htl, ho, hr, hg, hry, hxl, hx1, hbxr⟩ := hrel;have hrdl := Ba hr;have hne : u5.ownBlock ≠ some g := fun e => by have := (ho.lt g e).1; omega
  have HO := hid ho;have HR := hid hr;have HG := hid hg;have HRD := hid hry;have HBXR := hid hbxr;clear hbxr;have HN := hid hne;have HM := hid hrdl;have hgs := hg.size;clear ho hr hg hry hne hrdl;go_wp2_with fail;refine (FG g ⟨#[44]⟩ r1 _ HR.out (by omega)).mono ?_;rintro e w2 ⟨rfl, hr2, hg2⟩;rw [show (⟨#[44]⟩ : ByteArray).data.toList = [44] from rfl] at hr2 ⊢;have hg02 := HG.out.trans hg2;have ho2 := HO.out.kept hg2 (.inr HN.out);have hry2 := HRD.out.grown hg2 (fun j e => by injection e with e; omega);have hs2 := hg02.size;have HBX2 := hid (hg2.cell HBXR.out (by have := HBN.out; simpa using this))
  cases hh : (Ar.has [44] r1).1 with
  | true =>
   have hl2 := (Ar.Dl [44] r1).2 hh;simp only [List.length_cons, List.length_nil] at hl2;have HT := hid (EA Ar.rusr Ar.Et xs r1 hh);have h3l := Ar.Et (Ar.has [44] r1).2;have HR2 := hid hr2;have HG2 := hid hg2;have HG02 := hid hg02;have HO2 := hid ho2;have HRY2 := hid hry2;clear hh hr2 hg2 hg02 ho2 hry2;generalize Ar.has [44] r1 = hv at *;go_wp2_with fail;refine (MS g bx hv.2 _ HR2.out (by omega) HRY2.out hg3 HBX2.out HBN.out).mono ?_;rintro e w3 ⟨rfl, hr3, hg3'⟩;have hs3 := hg3'.size;have HO3 := hid (HO2.out.kept hg3' (.inr HN.out));have HG3 := hid (HG02.out.trans hg3');have HR3 := hid hr3;have HRY3 := hid (HRY2.out.grown hg3' (fun j e => by injection e with e; omega));have HBX3 := hid (hg3'.cell HBX2.out (by have := HBN.out; simpa using this));clear hr3 hg3';go_wp2_with (at_builtin; refine Bt Kw rfl _ _ rfl w3 (usrL [(Ar.rusr hv.2).1]) 1 rfl (MQ _) u5 xs.length (usrL xs) w.heap.size rfl HO3.out rfl (by omega) (by omega) ?_; intro v4 w4 ho4 hg4 hb4)
   go_roundw
   case rel =>
    have hga := (World.grownBy_alloc w3 (.cells (usrL [(Ar.rusr hv.2).1]).toArray 77) u5.ownBlock).trans hg4;have hg04 := HG3.out.andThen hga (fun j e => .inl (HO3.out.lt j e).1);have hr4 := HR3.out.keep hga (fun e => HN.out e.symm);refine ⟨xs ++ [(Ar.rusr hv.2).1], (Ar.rusr hv.2).2, hid (htl.out.trans HT.out), ?_, hr4, hg04, HRY3.out.grown hga (fun j e => by have := (HO3.out.lt j e).1; omega), by rw [List.length_append]; simp; omega, by rw [List.length_append]; simp, hga.cell HBX3.out (fun e => by have := (HO3.out.lt _ e.symm).1; simp at this; omega)⟩;rw [List.length_append, Fq];exact ho4
   case measure =>
    have hga := (World.grownBy_alloc w3 (.cells (usrL [(Ar.rusr hv.2).1]).toArray 77) u5.ownBlock).trans hg4;have hr4 := HR3.out.keep hga (fun e => HN.out e.symm);rw [Ba hr4, HM.out];omega
  | false =>
   have HT := hid (FE Ar.rusr xs r1 hh);have HR2 := hid hr2;have HG02 := hid hg02;have HO2 := hid ho2;clear hh hr2 hg2 hg02 ho2 hry2;go_wp2_with fail;go_ret;refine ⟨⟨_, rfl, ?_⟩, ?_, HG02.out⟩
   ·rw [htl.out, HT.out]; exact HO2.out
   ·rw [htl.out, HT.out]; exact HR2.out
theorem PJ (g : Nat) (r : Ar.RS) (w : World) (h : RdS w g r) (hl : r.1.length ≤ 1000000) (hRd : Ready w) (hg3 : 3 ≤ g) (bx : Nat) (hbx : w.cell? ⟨bx, 0, none⟩ = some (.pointer (some ⟨g, 0, none⟩))) (hne0 : bx ≠ g) :
  Calls Tryz.prog 228 #[.pointer (some ⟨g, 0, none⟩), .func (.func 229) #[] #[.pointer (some ⟨bx, 0, none⟩)]] w fun e w' =>
   (∃ v, e = .returned v ∧ w'.ownsRow w.heap.size 211 2 v (Ar.Au Ar.rknd (r.1.length + 1) r).1.length (kndL (Ar.Au Ar.rknd (r.1.length + 1) r).1)) ∧ RdS w' g (Ar.Au Ar.rknd (r.1.length + 1) r).2 ∧ w.grownBy w' (some g) := by
 have HF := hid (Dr Ar.rknd Ar.Ev r);have hlt := h.lt;have hol := Ar.Ev r;have HR0 := hid h;have HRY := hid hRd;have hbl : bx < w.heap.size := AV hbx;have HBX := hid hbx;have HBN := hid hne0;clear hbx hne0;clear h hRd;go_enter Tryz.func228, Tryz.ntmps228;go_wp2_with fail;refine (MI g bx r _ HR0.out hl HRY.out hg3 HBX.out HBN.out).mono ?_;rintro e w1 ⟨rfl, hr1, hg1⟩;have hs1 := hg1.size;have HR1 := hid hr1;have HG1 := hid hg1;have HOL : Hid ((w1.alloc (.cells (kndL [(Ar.rknd r).1]).toArray 211)).ownsRow w.heap.size 211 2 (.slice (some ⟨w1.heap.size, 0, none⟩) 1 1) 1 (kndL [(Ar.rknd r).1])) := hid (World.ownsRow_lit (base := w.heap.size) (e := 211) (size := 2) w1 (kndL [(Ar.rknd r).1]).toArray 1 hs1 (by decide) rfl);have HBX1 := hid (hg1.cell HBX.out (by have := HBN.out; simpa using this));clear hr1 hg1;go_wp2_with fail
 go_loopw [5] (fun out wr => ∃ (xs : List (Int × Int)) (r1 : Ar.RS), Hid (Ar.Au Ar.rknd (r.1.length + 1) r = tailL Ar.rknd xs r1) ∧ wr.ownsRow w.heap.size 211 2 out xs.length (kndL xs) ∧ RdS wr g r1 ∧ w.grownBy wr (some g) ∧ Ready wr ∧ r1.1.length + xs.length ≤ 1000001 ∧ 1 ≤ xs.length ∧ wr.cell? ⟨bx, 0, none⟩ = some (.pointer (some ⟨g, 0, none⟩))) (fun _ wr => rdLen wr g)
 case atStart =>
  have hga := HG1.out.andThen (World.grownBy_alloc w1 (.cells (kndL [(Ar.rknd r).1]).toArray 211) none) (fun j e => by cases e);exact ⟨[(Ar.rknd r).1], (Ar.rknd r).2, HF, HOL.out, HR1.out.keep (World.grownBy_alloc w1 _ none) (by simp), hga, HRY.out.grown hga (fun j e => by injection e with e; omega), by simp; omega, by simp, (World.grownBy_alloc w1 _ none).cell HBX1.out (by simp)⟩
 case round =>
  obtain ⟨xs, r1, htl, ho, hr, hg, hry, hxl, hx1, hbxr⟩ := hrel;have hrdl := Ba hr;have hne : u5.ownBlock ≠ some g := fun e => by have := (ho.lt g e).1; omega
  have HO := hid ho;have HR := hid hr;have HG := hid hg;have HRD := hid hry;have HBXR := hid hbxr;clear hbxr;have HN := hid hne;have HM := hid hrdl;have hgs := hg.size;clear ho hr hg hry hne hrdl;go_wp2_with fail;refine (FG g ⟨#[44]⟩ r1 _ HR.out (by omega)).mono ?_;rintro e w2 ⟨rfl, hr2, hg2⟩;rw [show (⟨#[44]⟩ : ByteArray).data.toList = [44] from rfl] at hr2 ⊢;have hg02 := HG.out.trans hg2;have ho2 := HO.out.kept hg2 (.inr HN.out);have hry2 := HRD.out.grown hg2 (fun j e => by injection e with e; omega);have hs2 := hg02.size;have HBX2 := hid (hg2.cell HBXR.out (by have := HBN.out; simpa using this))
  cases hh : (Ar.has [44] r1).1 with
  | true =>
   have hl2 := (Ar.Dl [44] r1).2 hh;simp only [List.length_cons, List.length_nil] at hl2;have HT := hid (EA Ar.rknd Ar.Ev xs r1 hh);have h3l := Ar.Ev (Ar.has [44] r1).2;have HR2 := hid hr2;have HG2 := hid hg2;have HG02 := hid hg02;have HO2 := hid ho2;have HRY2 := hid hry2;clear hh hr2 hg2 hg02 ho2 hry2;generalize Ar.has [44] r1 = hv at *;go_wp2_with fail;refine (MI g bx hv.2 _ HR2.out (by omega) HRY2.out hg3 HBX2.out HBN.out).mono ?_;rintro e w3 ⟨rfl, hr3, hg3'⟩;have hs3 := hg3'.size;have HO3 := hid (HO2.out.kept hg3' (.inr HN.out));have HG3 := hid (HG02.out.trans hg3');have HR3 := hid hr3;have HRY3 := hid (HRY2.out.grown hg3' (fun j e => by injection e with e; omega));have HBX3 := hid (hg3'.cell HBX2.out (by have := HBN.out; simpa using this));clear hr3 hg3';go_wp2_with (at_builtin; refine Bt MO rfl _ _ rfl w3 (kndL [(Ar.rknd hv.2).1]) 1 rfl (MU _) u5 xs.length (kndL xs) w.heap.size rfl HO3.out rfl (by omega) (by omega) ?_; intro v4 w4 ho4 hg4 hb4)
   go_roundw
   case rel =>
    have hga := (World.grownBy_alloc w3 (.cells (kndL [(Ar.rknd hv.2).1]).toArray 211) u5.ownBlock).trans hg4;have hg04 := HG3.out.andThen hga (fun j e => .inl (HO3.out.lt j e).1);have hr4 := HR3.out.keep hga (fun e => HN.out e.symm);refine ⟨xs ++ [(Ar.rknd hv.2).1], (Ar.rknd hv.2).2, hid (htl.out.trans HT.out), ?_, hr4, hg04, HRY3.out.grown hga (fun j e => by have := (HO3.out.lt j e).1; omega), by rw [List.length_append]; simp; omega, by rw [List.length_append]; simp, hga.cell HBX3.out (fun e => by have := (HO3.out.lt _ e.symm).1; simp at this; omega)⟩;rw [List.length_append, Fk];exact ho4
   case measure =>
    have hga := (World.grownBy_alloc w3 (.cells (kndL [(Ar.rknd hv.2).1]).toArray 211) u5.ownBlock).trans hg4;have hr4 := HR3.out.keep hga (fun e => HN.out e.symm);rw [Ba hr4, HM.out];omega
  | false =>
   have HT := hid (FE Ar.rknd xs r1 hh);have HR2 := hid hr2;have HG02 := hid hg02;have HO2 := hid ho2;clear hh hr2 hg2 hg02 ho2 hry2;go_wp2_with fail;go_ret;refine ⟨⟨_, rfl, ?_⟩, ?_, HG02.out⟩
   ·rw [htl.out, HT.out]; exact HO2.out
   ·rw [htl.out, HT.out]; exact HR2.out
theorem DP : ∀ (k n : Nat), n < 10 ^ (k + 1) → (Ar.digs n).length ≤ k + 1
 | 0, n, h => by rw [Ar.BN n (by simpa using h)]; simp
 | k + 1, n, h => by
  by_cases h10 : n < 10
  ·rw [Ar.BN n h10]; simp
  ·rw [Ar.CH n (by omega), List.length_append];have h1 : n / 10 < 10 ^ (k + 1) := by
    rw [Nat.pow_succ] at h;omega
   have := DP k (n / 10) h1;simp;omega
def dgA (j : Nat) (acc : List UInt8) : Array Value := (List.replicate (20 - j) (Value.int .u8 0) ++ Bu acc).toArray
theorem MP (j : Nat) (acc : List UInt8) (c : UInt8) (hj : j < 20) (hl : acc.length = j) : (dgA j acc).setIfInBounds (20 - j - 1) (.int .u8 (c.toNat : Int)) = dgA (j + 1) (c :: acc) := by
 unfold dgA;rw [List.setIfInBounds_toArray]
 congr 1
 rw [show 20 - j = (20 - j - 1) + 1 from by omega, List.replicate_succ', List.append_assoc, List.set_append_right _ _ (by rw [List.length_replicate]; omega), List.length_replicate];rw [show 20 - j - 1 + 1 - 1 - (20 - j - 1) = 0 from by omega, show 20 - (j + 1) = 20 - j - 1 from by omega];rfl
theorem Qs (j : Nat) (acc : List UInt8) (hl : acc.length = j) (hj : j ≤ 20) (i : Nat) (hi : i < 20) : ∃ v, (dgA j acc)[i]? = some v := by
 refine ⟨(dgA j acc)[i]'?_, ?_⟩
 ·unfold dgA;simp [Bu, hl];omega
 ·exact Array.getElem?_eq_getElem _
theorem RY {w : World} {g j : Nat} {t : TypeId} {acc : List UInt8} (h : Blk w g t (dgA j acc)) (hl : acc.length = j) (hj : j ≤ 20) : Rd w (some ⟨g, 20 - j, none⟩) j (Bu acc) := by
 refine ⟨by rw [IH]; exact hl, fun i v hv => ⟨g, 20 - j, rfl, ?_⟩⟩;rw [h.cell];unfold dgA;rw [List.getElem?_toArray, List.getElem?_append_right (by rw [List.length_replicate]; omega), List.length_replicate, Nat.add_sub_cancel_left];exact hv
theorem JW (n : Int) (h : n < 0) (h2 : -9223372036854775808 ≤ n) : IntKind.u64.wrap (-IntKind.u64.wrap n) = (n.natAbs : Int) := by rw [IntKind.wrap_u64, IntKind.wrap_u64]; omega
theorem Jg (W : World) (B k : Nat) (hk : k < 20) : (Instr.sliceAt 193 (.pointer (some ⟨B, 0, none⟩)) (some (.int .i64 (20 - (k : Int) - 1))) none none).run Tryz.prog W = .ok (.slice (some ⟨B, 19 - k, none⟩) (k + 1) (k + 1)) W := by
 have e20 : Tryz.prog.arrayLen 193 = 20 := by kernel_rfl
 rw [run_sliceAt_array_l W 193 ⟨B, 0, none⟩ (by kernel_rfl) .i64 _ (by omega) (by rw [e20]; omega), e20, show Tryz.prog.elem 193 = 5 from by kernel_rfl];rw [show (Go.sizeOf 5).run Tryz.prog W = .ok 1 W from by kernel_rfl];have e : (20 - (k : Int) - 1).toNat = 20 - (k + 1) := by omega
 rw [e];unfold slicedAt;show Result.ok (Value.slice (some (if 20 = 20 - (k + 1) then _ else _)) _ _) W = _;rw [if_neg (by omega), show 20 - (20 - (k + 1)) = k + 1 from by omega, Nat.mul_one];simp only [Addr.add, Nat.zero_add];rw [show 20 - (k + 1) = 19 - k from by omega];by_cases h : 19 - k = 0
 ·rw [if_pos h, h]
 ·rw [if_neg h]
theorem KR (W : World) (B k : Nat) (acc : List UInt8) (h : Blk W B 193 (dgA (k + 1) acc)) (hl : acc.length = k + 1) (hk : k < 20) : (convert 69 9 (.slice (some ⟨B, 19 - k, none⟩) (k + 1) (k + 1))).run Tryz.prog W = .ok (.string (bstr acc)) W :=
 Hh W _ _ _ Tryz.underlying69 Tryz.underlying5 Tryz.underlying9 _ _ _ acc (by have := RY h hl (by omega); rwa [show 20 - (k + 1) = 19 - k from by omega] at this)
def NRel (B : Nat) (w : World) (A : Nat) (u i j : Value) (wr : World) : Prop :=
 ∃ (uu k : Nat) (acc : List UInt8), u = .int .u64 uu ∧ i = .int .i64 (20 - k : Int) ∧ j = .int .i64 k ∧ acc.length = k ∧ k < 20 ∧ uu ≤ 9223372036854775808 ∧ Hid (Ar.digs A = Ar.digs uu ++ acc) ∧ Blk wr B 193 (dgA k acc) ∧ Below B w wr
theorem Bp (n : Int) (w : World) (hn : Ar.inInt n) : Calls Tryz.prog 89 #[.int .i64 n] w fun e w' => e = .returned (.string (bstr (Ar.itoa n))) ∧ Below w.heap.size w w' := by
 obtain ⟨hn1, hn2⟩ := hn;by_cases h0 : n < 0
 ·have HI : Hid (Ar.itoa n = 45 :: Ar.digs n.natAbs) := hid (by unfold Ar.itoa; rw [if_pos h0]);have HW := hid (JW n h0 hn1);have hA : n.natAbs ≤ 9223372036854775808 := by omega
  generalize n.natAbs = A at *;have hlen : (Ar.digs A).length ≤ 19 := DP 18 A (by omega);go_enter Tryz.func89, Tryz.ntmps89;go_wp2_with fail;generalize hwA : w.alloc _ = wA
  go_loopw [3, 5, 13] (fun u i j wr => NRel w.heap.size w A u i j wr) (fun _ _ j _ => 20 - (RowKit.intOf j).toNat)
  case atStart =>
   refine ⟨A, 0, [], by rw [HW.out], by rfl, by rfl, rfl, by omega, hA, hid (by rw [List.append_nil]), ?_, ?_⟩
   ·rw [← hwA]; exact Blk.new _ _ _
   ·rw [← hwA]; exact (Below.refl _ _).alloc (Nat.le_refl _) _
  case round =>
   obtain ⟨u, k, acc, rfl, rfl, rfl, hk, hk20, hu, hdg, hblk, hbw⟩ := hrel;have hcell := Qs k acc hk (by omega) (20 - k - 1) (by omega);obtain ⟨v0, hcell⟩ := hcell;have hc0 := hblk.cell (20 - k - 1);rw [hcell] at hc0;have hf0 := hblk.frozen (20 - k - 1);have hset := hblk.set_ (20 - k - 1) (.int .u8 (48 + (u : Int) % 10));have hdb : (48 + (u : Int) % 10) = ((UInt8.ofNat (48 + u % 10)).toNat : Int) := by rw [(Ar.EG (u % 10) (by omega)).2]; omega
   have hds : (dgA k acc).setIfInBounds (20 - k - 1) (.int .u8 (48 + (u : Int) % 10)) = dgA (k + 1) (UInt8.ofNat (48 + u % 10) :: acc) := by rw [hdb]; exact MP k acc _ hk20 hk
   rw [hds] at hset;have HB := hid hset;have hbw2 := hbw.setCell (p := ⟨w.heap.size, 20 - k - 1, none⟩) (Nat.le_refl _) (.int .u8 (48 + (u : Int) % 10));clear hcell hds hdb hset hblk hbw;obtain ⟨c, hc⟩ : ∃ c, UInt8.ofNat (48 + u % 10) = c := ⟨_, rfl⟩;rw [hc] at HB;replace hc := hid hc;by_cases h10 : u < 10
   ·have hq : u / 10 = 0 := by omega
    have HE : Hid (Ar.digs A = c :: acc) := hid (by rw [hdg.out, Ar.BN u h10, ← hc.out, Nat.mod_eq_of_lt h10]; rfl);have hsl := Jg (wr.setCell ⟨w.heap.size, 20 - k - 1, none⟩ (.int .u8 (48 + (u : Int) % 10))) w.heap.size k hk20;have hcv := KR _ w.heap.size k _ HB.out (by rw [List.length_cons, hk]) hk20;have hss : (bstr (c :: acc)).size = k + 1 := by rw [Ab, List.length_cons, hk]
    go_wp2_with fail;go_ret;exact ⟨AM (by rw [HI.out, HE.out]; exact Bg (by rfl)), hbw2⟩
   ·have hq : u / 10 ≠ 0 := by omega
    go_wp2_with fail
    go_round
    case rel => exact ⟨u / 10, k + 1, c :: acc, by go_num, by go_num, by go_num, by rw [List.length_cons, hk], by have := congrArg List.length hdg.out; rw [List.length_append, hk] at this; have h2 := Ar.CH u (by omega); rw [h2, List.length_append] at this; have h3 := List.length_pos_iff.2 (Ar.Du (u / 10)); simp at this; omega, by omega, hid (by rw [hdg.out, Ar.CH u (by omega), List.append_assoc, hc.out]; rfl), HB.out, hbw2⟩
    case measure => simp [RowKit.intOf]; omega
 ·have HI : Hid (Ar.itoa n = Ar.digs n.natAbs) := hid (by unfold Ar.itoa; rw [if_neg h0]);have HW := hid (show n = (n.natAbs : Int) from by omega);have hA : n.natAbs ≤ 9223372036854775808 := by omega
  generalize n.natAbs = A at *;have hlen : (Ar.digs A).length ≤ 19 := DP 18 A (by omega);go_enter Tryz.func89, Tryz.ntmps89;go_wp2_with fail;generalize hwA : w.alloc _ = wA
  go_loopw [3, 5, 13] (fun u i j wr => NRel w.heap.size w A u i j wr) (fun _ _ j _ => 20 - (RowKit.intOf j).toNat)
  case atStart =>
   refine ⟨A, 0, [], by rw [HW.out], by rfl, by rfl, rfl, by omega, hA, hid (by rw [List.append_nil]), ?_, ?_⟩
   ·rw [← hwA]; exact Blk.new _ _ _
   ·rw [← hwA]; exact (Below.refl _ _).alloc (Nat.le_refl _) _
  case round =>
   obtain ⟨u, k, acc, rfl, rfl, rfl, hk, hk20, hu, hdg, hblk, hbw⟩ := hrel;have hcell := Qs k acc hk (by omega) (20 - k - 1) (by omega);obtain ⟨v0, hcell⟩ := hcell;have hc0 := hblk.cell (20 - k - 1);rw [hcell] at hc0;have hf0 := hblk.frozen (20 - k - 1);have hset := hblk.set_ (20 - k - 1) (.int .u8 (48 + (u : Int) % 10));have hdb : (48 + (u : Int) % 10) = ((UInt8.ofNat (48 + u % 10)).toNat : Int) := by rw [(Ar.EG (u % 10) (by omega)).2]; omega
   have hds : (dgA k acc).setIfInBounds (20 - k - 1) (.int .u8 (48 + (u : Int) % 10)) = dgA (k + 1) (UInt8.ofNat (48 + u % 10) :: acc) := by rw [hdb]; exact MP k acc _ hk20 hk
   rw [hds] at hset;have HB := hid hset;have hbw2 := hbw.setCell (p := ⟨w.heap.size, 20 - k - 1, none⟩) (Nat.le_refl _) (.int .u8 (48 + (u : Int) % 10));clear hcell hds hdb hset hblk hbw;obtain ⟨c, hc⟩ : ∃ c, UInt8.ofNat (48 + u % 10) = c := ⟨_, rfl⟩;rw [hc] at HB;replace hc := hid hc;by_cases h10 : u < 10
   ·have hq : u / 10 = 0 := by omega
    have HE : Hid (Ar.digs A = c :: acc) := hid (by rw [hdg.out, Ar.BN u h10, ← hc.out, Nat.mod_eq_of_lt h10]; rfl);have hsl := Jg (wr.setCell ⟨w.heap.size, 20 - k - 1, none⟩ (.int .u8 (48 + (u : Int) % 10))) w.heap.size k hk20;have hcv := KR _ w.heap.size k _ HB.out (by rw [List.length_cons, hk]) hk20;have hss : (bstr (c :: acc)).size = k + 1 := by rw [Ab, List.length_cons, hk]
    go_wp2_with fail;go_ret;exact ⟨AM (by rw [HI.out, HE.out]), hbw2⟩
   ·have hq : u / 10 ≠ 0 := by omega
    go_wp2_with fail
    go_round
    case rel => exact ⟨u / 10, k + 1, c :: acc, by go_num, by go_num, by go_num, by rw [List.length_cons, hk], by have := congrArg List.length hdg.out; rw [List.length_append, hk] at this; have h2 := Ar.CH u (by omega); rw [h2, List.length_append] at this; have h3 := List.length_pos_iff.2 (Ar.Du (u / 10)); simp at this; omega, by omega, hid (by rw [hdg.out, Ar.CH u (by omega), List.append_assoc, hc.out]; rfl), HB.out, hbw2⟩
    case measure => simp [RowKit.intOf]; omega
structure Acc (f : FuncId) (i : Nat) : Prop where
 enters : Enters Tryz.prog f
 calls : ∀ (g : Nat) (w : World), Calls Tryz.prog f #[.pointer (some ⟨g, 0, none⟩)] w fun e w' => e = .returned (.pointer (some ⟨g, i, none⟩)) ∧ w' = w
theorem Bl {a b : Addr} (h : a = b) : Ending.returned (.pointer (some a)) = .returned (.pointer (some b)) := by rw [h]
theorem acc0 : Acc 160 0 where
 enters := enters_of Tryz.func160 (by kernel_rfl) rfl
 calls g w := by
  go_enter Tryz.func160, Tryz.ntmps160;go_wp2_with fail;go_ret;exact ⟨Bl rfl, rfl⟩
theorem acc1 : Acc 161 1 where
 enters := enters_of Tryz.func161 (by kernel_rfl) rfl
 calls g w := by
  go_enter Tryz.func161, Tryz.ntmps161;go_wp2_with fail;go_ret;exact ⟨Bl rfl, rfl⟩
theorem acc2 : Acc 162 2 where
 enters := enters_of Tryz.func162 (by kernel_rfl) rfl
 calls g w := by
  go_enter Tryz.func162, Tryz.ntmps162;go_wp2_with fail;go_ret;exact ⟨Bl rfl, rfl⟩
theorem acc4 : Acc 165 4 where
 enters := enters_of Tryz.func165 (by kernel_rfl) rfl
 calls g w := by
  go_enter Tryz.func165, Tryz.ntmps165;go_wp2_with fail;go_ret;exact ⟨Bl rfl, rfl⟩
theorem acc5 : Acc 166 5 where
 enters := enters_of Tryz.func166 (by kernel_rfl) rfl
 calls g w := by
  go_enter Tryz.func166, Tryz.ntmps166;go_wp2_with fail;go_ret;exact ⟨Bl rfl, rfl⟩
theorem acc6 : Acc 167 6 where
 enters := enters_of Tryz.func167 (by kernel_rfl) rfl
 calls g w := by
  go_enter Tryz.func167, Tryz.ntmps167;go_wp2_with fail;go_ret;exact ⟨Bl rfl, rfl⟩
theorem acc7 : Acc 168 7 where
 enters := enters_of Tryz.func168 (by kernel_rfl) rfl
 calls g w := by
  go_enter Tryz.func168, Tryz.ntmps168;go_wp2_with fail;go_ret;exact ⟨Bl rfl, rfl⟩
theorem acc8 : Acc 170 8 where
 enters := enters_of Tryz.func170 (by kernel_rfl) rfl
 calls g w := by
  go_enter Tryz.func170, Tryz.ntmps170;go_wp2_with fail;go_ret;exact ⟨Bl rfl, rfl⟩
theorem acc9 : Acc 171 9 where
 enters := enters_of Tryz.func171 (by kernel_rfl) rfl
 calls g w := by
  go_enter Tryz.func171, Tryz.ntmps171;go_wp2_with fail;go_ret;exact ⟨Bl rfl, rfl⟩
theorem acc10 : Acc 172 10 where
 enters := enters_of Tryz.func172 (by kernel_rfl) rfl
 calls g w := by
  go_enter Tryz.func172, Tryz.ntmps172;go_wp2_with fail;go_ret;exact ⟨Bl rfl, rfl⟩
theorem acc11 : Acc 173 11 where
 enters := enters_of Tryz.func173 (by kernel_rfl) rfl
 calls g w := by
  go_enter Tryz.func173, Tryz.ntmps173;go_wp2_with fail;go_ret;exact ⟨Bl rfl, rfl⟩
theorem acc12 : Acc 174 12 where
 enters := enters_of Tryz.func174 (by kernel_rfl) rfl
 calls g w := by
  go_enter Tryz.func174, Tryz.ntmps174;go_wp2_with fail;go_ret;exact ⟨Bl rfl, rfl⟩
theorem acc13 : Acc 175 13 where
 enters := enters_of Tryz.func175 (by kernel_rfl) rfl
 calls g w := by
  go_enter Tryz.func175, Tryz.ntmps175;go_wp2_with fail;go_ret;exact ⟨Bl rfl, rfl⟩
theorem acc14 : Acc 176 14 where
 enters := enters_of Tryz.func176 (by kernel_rfl) rfl
 calls g w := by
  go_enter Tryz.func176, Tryz.ntmps176;go_wp2_with fail;go_ret;exact ⟨Bl rfl, rfl⟩
theorem acc15 : Acc 178 15 where
 enters := enters_of Tryz.func178 (by kernel_rfl) rfl
 calls g w := by
  go_enter Tryz.func178, Tryz.ntmps178;go_wp2_with fail;go_ret;exact ⟨Bl rfl, rfl⟩
theorem acc16 : Acc 179 16 where
 enters := enters_of Tryz.func179 (by kernel_rfl) rfl
 calls g w := by
  go_enter Tryz.func179, Tryz.ntmps179;go_wp2_with fail;go_ret;exact ⟨Bl rfl, rfl⟩
theorem acc19 : Acc 182 19 where
 enters := enters_of Tryz.func182 (by kernel_rfl) rfl
 calls g w := by
  go_enter Tryz.func182, Tryz.ntmps182;go_wp2_with fail;go_ret;exact ⟨Bl rfl, rfl⟩
theorem acc20 : Acc 183 20 where
 enters := enters_of Tryz.func183 (by kernel_rfl) rfl
 calls g w := by
  go_enter Tryz.func183, Tryz.ntmps183;go_wp2_with fail;go_ret;exact ⟨Bl rfl, rfl⟩
theorem acc21 : Acc 184 21 where
 enters := enters_of Tryz.func184 (by kernel_rfl) rfl
 calls g w := by
  go_enter Tryz.func184, Tryz.ntmps184;go_wp2_with fail;go_ret;exact ⟨Bl rfl, rfl⟩
theorem acc22 : Acc 185 22 where
 enters := enters_of Tryz.func185 (by kernel_rfl) rfl
 calls g w := by
  go_enter Tryz.func185, Tryz.ntmps185;go_wp2_with fail;go_ret;exact ⟨Bl rfl, rfl⟩
theorem acc23 : Acc 186 23 where
 enters := enters_of Tryz.func186 (by kernel_rfl) rfl
 calls g w := by
  go_enter Tryz.func186, Tryz.ntmps186;go_wp2_with fail;go_ret;exact ⟨Bl rfl, rfl⟩
theorem acc24 : Acc 187 24 where
 enters := enters_of Tryz.func187 (by kernel_rfl) rfl
 calls g w := by
  go_enter Tryz.func187, Tryz.ntmps187;go_wp2_with fail;go_ret;exact ⟨Bl rfl, rfl⟩
theorem acc25 : Acc 188 25 where
 enters := enters_of Tryz.func188 (by kernel_rfl) rfl
 calls g w := by
  go_enter Tryz.func188, Tryz.ntmps188;go_wp2_with fail;go_ret;exact ⟨Bl rfl, rfl⟩
theorem acc26 : Acc 106 26 where
 enters := enters_of Tryz.func106 (by kernel_rfl) rfl
 calls g w := by
  go_enter Tryz.func106, Tryz.ntmps106;go_wp2_with fail;go_ret;exact ⟨Bl rfl, rfl⟩
theorem acc27 : Acc 108 27 where
 enters := enters_of Tryz.func108 (by kernel_rfl) rfl
 calls g w := by
  go_enter Tryz.func108, Tryz.ntmps108;go_wp2_with fail;go_ret;exact ⟨Bl rfl, rfl⟩
theorem acc28 : Acc 109 28 where
 enters := enters_of Tryz.func109 (by kernel_rfl) rfl
 calls g w := by
  go_enter Tryz.func109, Tryz.ntmps109;go_wp2_with fail;go_ret;exact ⟨Bl rfl, rfl⟩
theorem Cx (l : List UInt8) : (bstr l).toList.isEmpty = l.isEmpty := by
 rw [Lib.toList_data]; rfl
theorem FVnum {n : Int} (h : n ≠ 0) : (Ar.FV.num n).text = Ar.itoa n := if_neg h
theorem FVtxt {s : List UInt8} (h : s ≠ []) : (Ar.FV.txt s).text = Ar.quote s := if_neg h
theorem OO (acc : FuncId) (i bx : Nat) (cells : Array Value) (n : Int) (w : World) (ha : Acc acc i) (hbx : w.cell? ⟨bx, 0, none⟩ = some (.func (.func acc) #[] #[])) (hc : cells[i]? = some (.int .i64 n)) (hn : Ar.inInt n) :
  Calls Tryz.prog 189 #[.agg cells, .pointer (some ⟨bx, 0, none⟩)] w fun e w' => e = .returned (.string (bstr (Ar.FV.num n).text)) ∧ Below w.heap.size w w' := by
 have hEN : ∀ (args : Array Value) (w : World), (callFunc acc args).run Tryz.prog w = .ok (.enter acc args) w := ha.enters;have HA := hid ha;have hlt : bx < w.heap.size := AV hbx;have hbx2 := (World.grownBy_alloc w (.cells cells 40) none).cell hbx (by simp);have hk := (Blk.new w 40 cells).cell i;rw [hc] at hk;have HB := hid ((Below.refl w.heap.size w).alloc (Nat.le_refl _) (.cells cells 40));have HN := hid hn;clear ha hbx hc hn;by_cases h0 : n = 0
 ·subst h0;go_enter Tryz.func189, Tryz.ntmps189;go_wp2_with (go_at_fn acc; refine (HA.out.calls _ _).mono ?_; rintro e w1 ⟨rfl, rfl⟩);go_ret;exact ⟨AM rfl, HB.out⟩
 ·have HT := hid (FVnum h0);go_enter Tryz.func189, Tryz.ntmps189;go_wp2_with (go_at_fn acc; refine (HA.out.calls _ _).mono ?_; rintro e w1 ⟨rfl, rfl⟩);refine (Bp n _ HN.out).mono ?_;rintro e w2 ⟨rfl, hb⟩;have HB2 := hid (HB.out.trans (hb.mono (by simp)));go_wp2_with fail;go_ret;exact ⟨AM (by rw [HT.out]), HB2.out⟩
theorem Qt (acc : FuncId) (i bx : Nat) (cells : Array Value) (s : List UInt8) (w : World) (ha : Acc acc i) (hbx : w.cell? ⟨bx, 0, none⟩ = some (.func (.func acc) #[] #[])) (hc : cells[i]? = some (.string (bstr s))) (hs : s.length ≤ 1000000) :
  Calls Tryz.prog 191 #[.agg cells, .pointer (some ⟨bx, 0, none⟩)] w fun e w' => e = .returned (.string (bstr (Ar.FV.txt s).text)) ∧ Below w.heap.size w w' := by
 have hEN : ∀ (args : Array Value) (w : World), (callFunc acc args).run Tryz.prog w = .ok (.enter acc args) w := ha.enters;have HA := hid ha;have hlt : bx < w.heap.size := AV hbx;have hbx2 := (World.grownBy_alloc w (.cells cells 40) none).cell hbx (by simp);have hk := (Blk.new w 40 cells).cell i;rw [hc] at hk;have HB := hid ((Below.refl w.heap.size w).alloc (Nat.le_refl _) (.cells cells 40));clear ha hbx hc;by_cases h0 : s = []
 ·subst h0;rw [show bstr [] = ⟨#[]⟩ from rfl] at hk;go_enter Tryz.func191, Tryz.ntmps191;go_wp2_with (go_at_fn acc; refine (HA.out.calls _ _).mono ?_; rintro e w1 ⟨rfl, rfl⟩);go_ret;exact ⟨AM rfl, HB.out⟩
 ·have HT := hid (FVtxt h0);have hne : (!(bstr s).toList.isEmpty) = true := by
   rw [Cx]
   cases s with
   | nil => exact absurd rfl h0
   | cons c r => rfl
  have hsz : (bstr s).size ≤ 1000000 := by rw [Ab]; exact hs
  have HL : Hid ((bstr s).data.toList = s) := hid rfl;obtain ⟨S, hS⟩ : ∃ S, bstr s = S := ⟨_, rfl⟩;rw [hS] at hne hk hsz HL;clear hS;go_enter Tryz.func191, Tryz.ntmps191;go_wp2_with (go_at_fn acc; refine (HA.out.calls _ _).mono ?_; rintro e w1 ⟨rfl, rfl⟩);refine (C5 S _ hsz).mono ?_;rintro e w2 ⟨rfl, hb⟩;have HB2 := hid (HB.out.trans (hb.mono (by simp)));go_wp2_with fail;go_ret;exact ⟨AM (by rw [HT.out, HL.out]), HB2.out⟩
theorem N2 (cells : Array Value) (n : Int) (w : World) (hc : cells[3]? = some (.int .i64 n)) (hn : Ar.inInt n) :
  Calls Tryz.prog 208 #[.agg cells] w fun e w' => e = .returned (.string (bstr (Ar.FV.num n).text)) ∧ Below w.heap.size w w' := by
 have hk := (Blk.new w 40 cells).cell 3;rw [hc] at hk;have HB := hid ((Below.refl w.heap.size w).alloc (Nat.le_refl _) (.cells cells 40));have HN := hid hn;clear hc hn;by_cases h0 : n = 0
 ·subst h0;go_enter Tryz.func208, Tryz.ntmps208;go_wp2_with fail;go_ret;exact ⟨AM rfl, HB.out⟩
 ·have HT := hid (FVnum h0);go_enter Tryz.func208, Tryz.ntmps208;go_wp2_with fail;refine (Bp n _ HN.out).mono ?_;rintro e w2 ⟨rfl, hb⟩;have HB2 := hid (HB.out.trans (hb.mono (by simp)));go_wp2_with fail;go_ret;exact ⟨AM (by rw [HT.out]), HB2.out⟩
theorem Np (acc : FuncId) (i bx by_ : Nat) (nm : ByteArray) (cells : Array Value) (b : Bool) (w : World) (ha : Acc acc i) (hbx : w.cell? ⟨bx, 0, none⟩ = some (.func (.func acc) #[] #[])) (hby : w.cell? ⟨by_, 0, none⟩ = some (.string nm)) (hc : cells[i]? = some (.bool b)) :
  Calls Tryz.prog 210 #[.agg cells, .pointer (some ⟨bx, 0, none⟩), .pointer (some ⟨by_, 0, none⟩)] w fun e w' => e = .returned (.string (if b then nm else bstr [])) ∧ Below w.heap.size w w' := by
 have hEN : ∀ (args : Array Value) (w : World), (callFunc acc args).run Tryz.prog w = .ok (.enter acc args) w := ha.enters;have HA := hid ha;have hlt : bx < w.heap.size := AV hbx;have hlt2 : by_ < w.heap.size := AV hby;have hbx2 := (World.grownBy_alloc w (.cells cells 40) none).cell hbx (by simp);have hby2 := (World.grownBy_alloc w (.cells cells 40) none).cell hby (by simp);have hk := (Blk.new w 40 cells).cell i;rw [hc] at hk;have HB := hid ((Below.refl w.heap.size w).alloc (Nat.le_refl _) (.cells cells 40));clear ha hbx hby hc
 cases b with
 | false =>
  go_enter Tryz.func210, Tryz.ntmps210;go_wp2_with (go_at_fn acc; refine (HA.out.calls _ _).mono ?_; rintro e w1 ⟨rfl, rfl⟩);go_ret;exact ⟨AM rfl, HB.out⟩
 | true =>
  go_enter Tryz.func210, Tryz.ntmps210;go_wp2_with (go_at_fn acc; refine (HA.out.calls _ _).mono ?_; rintro e w1 ⟨rfl, rfl⟩);go_ret;exact ⟨AM rfl, HB.out⟩
end Go.Proofs.YteadlcncnhbmjaaGreatDoor
