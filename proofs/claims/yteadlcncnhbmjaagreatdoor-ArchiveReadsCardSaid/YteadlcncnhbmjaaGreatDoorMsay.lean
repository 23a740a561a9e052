/- The texts Rd5, Rh0, Rf3, Rf4, Ax3 of this proof, one behind the other. -/
import Derived.Deep.DrawnRows
import Derived.Deep.RegionHeld3
import Derived.Test.YteadlcncnhbmjaaGreatDoorMsar
import Derived.Test.YteadlcncnhbmjaaGreatDoorMsaw
import Derived.Test.YteadlcncnhbmjaaGreatDoorMsax
import Derived.Test.YteadlcncnhbmjaaGreatDoorMsad
import Derived.Test.YteadlcncnhbmjaaGreatDoorMsas
set_option linter.unusedSimpArgs false
set_option maxHeartbeats 16000000
set_option maxRecDepth 100000
set_option linter.unusedVariables false
namespace Go.Proofs.YteadlcncnhbmjaaGreatDoor
open Go.RowKit Go.Lib
theorem rg_b {w w' : World} {b o : Nat} {cs : List Value} (hb : Nx w w') (h : w.rangeAt b o cs) : w'.rangeAt b o cs := fun j v hj => Cg hb (h j v hj)
structure SE (w0 : World) (be : Nat) (X : Array Value) (e : List Ar.FV) (W : World) : Prop where
 ev : EvOf (fun b => w0.heap.size < b) W X e
 blk : Blk W be 40 X
 res : ∃ old, Blk W w0.heap.size 40 old ∧ old.size = 29
 bel : Below w0.heap.size w0 W
 lt : w0.heap.size < be
theorem SE.nx {w0 W W' : World} {be : Nat} {X : Array Value} {e : List Ar.FV} (hb : Nx W W') (h : SE w0 be X e W) : SE w0 be X e W' := by
 obtain ⟨old, h1, h2⟩ := h.res;exact ⟨h.ev.below hb, h.blk.below hb h.blk.lt, ⟨old, h1.below hb h1.lt, h2⟩, h.bel.trans (Below.mono hb h.bel.size), h.lt⟩
theorem SE.drew {w0 W : World} {be : Nat} {X : Array Value} {e : List Ar.FV} (h : SE w0 be X e W) : SE w0 be X e W.drew := SE.nx (show Below _ _ _ from (Below.refl _ _).drew) h
theorem SE.done {w0 W : World} {be : Nat} {X : Array Value} {e : List Ar.FV} (h : SE w0 be X e W) : Blk (W.setRow w0.heap.size X) w0.heap.size 40 X ∧ EvOf (fun b => w0.heap.size ≤ b) (W.setRow w0.heap.size X) X e ∧ Below w0.heap.size w0 (W.setRow w0.heap.size X) := by
 obtain ⟨old, h1, h2⟩ := h.res;exact ⟨setRow_heap _ _ _ _ _ _ h1, h.ev.keep fun b hb _ => ⟨Nat.le_of_lt hb, setRow_other _ _ _ _ (by omega)⟩, below_setRow h.bel (Nat.le_refl _) _⟩
theorem SE.set {w0 W : World} {be : Nat} {X : Array Value} {e : List Ar.FV} (h : SE w0 be X e W) : SE w0 be X e (W.setRow w0.heap.size X) := by
 obtain ⟨old, h1, h2⟩ := h.res;have hlt := h.lt;exact ⟨h.ev.keep fun b hb _ => ⟨hb, setRow_other _ _ _ _ (by omega)⟩, (setRow_other _ _ _ _ (by omega)).trans h.blk, ⟨X, setRow_heap _ _ _ _ _ _ h1, h.ev.size⟩, below_setRow h.bel (Nat.le_refl _) _, h.lt⟩
theorem SE.load {w0 W : World} {be : Nat} {X : Array Value} {e : List Ar.FV} (h : SE w0 be X e W) : (loadVar 40 ⟨be, 0, none⟩).run Tryz.prog W = .ok (.agg X) W := LA W be X h.blk h.ev.size
theorem SE.yields {w0 : World} {be : Nat} {X : Array Value} {e : List Ar.FV} {ops : Array Oper} {op : Oper} {a : Act} (hw : Region.wanted op (yielded ops a.tmps) = true) (x : Operand) (ho : op.op = .load 40 x) (hx : a.eval x = .pointer (some ⟨be, 0, none⟩)) : YieldsIf Tryz.prog ops (fun W => SE w0 be X e W) op (.agg X) a :=
 .inl ⟨hw, fun w hw' => by
  unfold execOp
  simp only [ho, hx, Instr.loadAt, Instr.sureAddr, Sem.run_bind, Sem.run_pure, Result.andThen_ok, hw'.load]⟩
theorem SE.stores {w0 : World} {be : Nat} {X : Array Value} {e : List Ar.FV} {op : Oper} {a : Act} {w : World} {K : Act → World → Prop} {Q : Exit → Act → World → Prop} {E : Prop} {ops : Array Oper} (hgd : op.guard = none) (h : SE w0 be X e w) (x y : Operand) (ho : op.op = .store 40 x y) (hx : a.eval x = .pointer (some ⟨w0.heap.size, 0, none⟩)) (hy : a.eval y = .agg X) (hK : K (a.put op.dst undef) (w.setRow w0.heap.size X)) : if Region.wanted op (yielded ops a.tmps) = true then op.wp Tryz.prog a w K Q else E := by
 have hw : Region.wanted op (yielded ops a.tmps) = true := by simp [Region.wanted, hgd]
 rw [if_pos hw];obtain ⟨old, h1, h2⟩ := h.res;exact wp_store_row 40 x y ho w0.heap.size X hx hy 40 old h1 (by rw [Aj, h.ev.size]) (by rw [h2, h.ev.size]) h.ev.one hK
def EvA (x : Option (List Ar.FV)) (base : Nat) (r : Ending) (w' : World) : Prop := (∃ e cells, x = some e ∧ r = .returned (.tuple #[.agg cells, .bool true]) ∧ EvOf (fun b => base ≤ b) w' cells e) ∨ (x = none ∧ ∃ cells, r = .returned (.tuple #[.agg cells, .bool false]) ∧ cells.size = 29 ∧ cells.all (·.oneCell') = true)
theorem KT {s w : List UInt8} (h : hasPrefix s w = false) : Ar.By s w = none := by unfold Ar.By; rw [if_neg (by rw [h]; decide)]
theorem J8 {s w : List UInt8} (h : hasPrefix s w = true) (hp : Ar.parse (trimPrefix (s.drop w.length) [32]) = none) : Ar.By s w = none := by unfold Ar.By; rw [if_pos h, hp]
theorem Mk {s w : List UInt8} {e : List Ar.FV} (h : hasPrefix s w = true) (hp : Ar.parse (trimPrefix (s.drop w.length) [32]) = some e) (ha : Ar.after w (Ar.line e) ≠ s) : Ar.By s w = none := by unfold Ar.By; rw [if_pos h, hp]; exact if_neg ha
theorem Kv {s w : List UInt8} {e : List Ar.FV} (h : hasPrefix s w = true) (hp : Ar.parse (trimPrefix (s.drop w.length) [32]) = some e) (ha : Ar.after w (Ar.line e) = s) : Ar.By s w = some e := by unfold Ar.By; rw [if_pos h, hp]; exact if_pos ha
theorem IS (s : ByteArray) (wd : List UInt8) (w : World) (hs : s.size ≤ 100000) (hwd : wd.length ≤ 1000) (hRd : Ready w) :
  Calls Tryz.prog 138 #[.string s, .string (bstr wd)] w fun r w' => EvA (Ar.By s.data.toList wd) w.heap.size r w' ∧ Below w.heap.size w w' := by
 have HRY := hid hRd;have HB0 := hid ((Below.refl w.heap.size w).alloc (Nat.le_refl _) (.cells zeroEv 40));have HR0 := hid (Blk.new w 40 zeroEv);have hcp := Tryz.strings_CutPrefix s (bstr wd);rw [show (bstr wd).data.toList = wd from rfl] at hcp;have HCP := hid hcp;clear hcp hRd;by_cases hp : hasPrefix s.data.toList wd = true
 ·have HT : Hid (trimPrefix s.data.toList wd = s.data.toList.drop wd.length) := hid (by unfold trimPrefix; rw [if_pos hp]);have HP := hid hp;obtain ⟨T, hT⟩ : ∃ T, trimPrefix (s.data.toList.drop wd.length) [32] = T := ⟨_, rfl⟩;have HTE := hid hT;have hTl : T.length ≤ 100000 := by
   rw [← hT];have h1 := trimPrefix_le (s.data.toList.drop wd.length) [32];rw [List.length_drop] at h1;have h2 := AI s;omega
  have htp := Tryz.strings_TrimPrefix (bstr (s.data.toList.drop wd.length)) ⟨#[32]⟩;rw [show (bstr (s.data.toList.drop wd.length)).data.toList = s.data.toList.drop wd.length from rfl, show (⟨#[32]⟩ : ByteArray).data.toList = [32] from rfl, hT] at htp;have HTP := hid htp;have HRE := hid (fun W h => FU (bstr T) W (by rw [Ab]; exact hTl) h);rw [show (bstr T).data.toList = T from rfl] at HRE;have HWK : Hid (∀ e, Ar.parse T = some e → (∀ v ∈ e, v.WOk) ∧ (Ar.line e).length ≤ 100000) := hid (fun e he => ⟨Ar.Jh he hTl, by rw [Ar.F8 he]; exact hTl⟩);clear hp hT htp hTl;go_enter Tryz.func138, Tryz.ntmps138;go_wp2_with fail;refine (HCP.out _).mono ?_;rintro r w1 ⟨rfl, rfl⟩;rw [HP.out, HT.out, show (⟨(s.data.toList.drop wd.length).toArray⟩ : ByteArray) = bstr (s.data.toList.drop wd.length) from rfl];generalize hD : bstr (s.data.toList.drop wd.length) = D at *;go_wp2_with fail;refine (HTP.out _).mono ?_;rintro r w1 ⟨rfl, rfl⟩;rw [show (⟨T.toArray⟩ : ByteArray) = bstr T from rfl];generalize hTT : bstr T = TT at *;go_wp2_with fail;refine (HRE.out _ (HRY.out.below HB0.out)).mono ?_;rintro r w2 ⟨hrev, hb2⟩;have HB2 := hid (HB0.out.trans (hb2.mono HB0.out.size));have HR2 := hid (HR0.out.below hb2 HR0.out.lt);have hs2 : w.heap.size < w2.heap.size := HR2.out.lt;clear hb2;rcases hrev with ⟨e, X, hpe, rfl, hx⟩ | ⟨hpe, rfl⟩
  ·have HPE := hid hpe;obtain ⟨hwk, hll⟩ := HWK.out e hpe;have HS2 : Hid ((Tryz.prog.info? 40).map (·.size) = some X.size) := hid (by rw [Aj, hx.size]);have HO2 := hid hx.one;have HZ2 : Hid (zeroEv.size = X.size) := hid (by rw [hx.size]; rfl);have HX2 : Hid (EvOf (fun b => w.heap.size < b) w2 X e) := hid (hx.keep fun b hb _ => ⟨by rw [World.size_alloc] at hb; omega, rfl⟩);have HEV := hid (fun W (h : EvOf (fun b => w.heap.size < b) W X e) => Eq _ X e W h hwk (by omega));have HAF := hid (fun W => GZ wd (Ar.line e) W (by omega) (by omega));have hcmp : ((bstr (Ar.after wd (Ar.line e))).toList == s.toList) = (Ar.after wd (Ar.line e) == s.data.toList) := by rw [Lib.toList_data s]; exact Ay _ _
   have HYES := hid (fun h => Kv HP.out (HTE.out ▸ hpe) (e := e) h);have HNO := hid (fun h => Mk HP.out (HTE.out ▸ hpe) (e := e) h);clear hpe hwk hll hx;go_wp2_with ((with_reducible refine AF rfl 40 _ _ rfl w2.heap.size X ?_ ?_ 40 _ (Blk.new w2 40 _) HS2.out ?_ HO2.out ?_); rfl; rfl; exact HZ2.out; intro w3 hk3 hs3 hbl3; have hz3 := ((Below.refl w2.heap.size w2).alloc (Nat.le_refl _) (.cells zeroEv 40)).trans (hbl3 w2.heap.size (Nat.le_refl _)); have HB3 := hid (HB2.out.trans (hz3.mono HB2.out.size)); have HX3 := hid (HX2.out.below hz3); have HR3 := hid (HR2.out.below hz3 hs2); have HK3 := hid hk3; clear hk3 hs3 hbl3 hz3);have hSE : SE w w2.heap.size X e w3 := ⟨HX3.out, HK3.out, ⟨_, HR3.out, rfl⟩, HB3.out, hs2⟩;refine wp_region_noPanic ?_;refine wp_region_held_drew (S := fun W => SE w w2.heap.size X e W) (by kernel_rfl) hSE.drew (fun hHeld => ?_);refine wpAnyH_take (i := 0) (oi := _) (v := _) rfl (by kernel_rfl) (by kernel_rfl) (by kernel_rfl) (fun _ _ _ h => h) (SE.yields (by rfl) _ rfl rfl) (by assumption) ?_
   (try simp only [Act.put, pk1, pk2, pk3, pk4, pk5, pk6])
   refine wpAnyH_take (i := 1) (oi := _) (v := ?_) rfl (by kernel_rfl) (by kernel_rfl) (by kernel_rfl) (fun _ _ _ h => h) (Or.inl ⟨by rfl, ?_⟩) (by assumption) ?_;rotate_left
   ·intro wq hSw
    (try dsimp only at hSw)
    go_simp
    (try with_reducible rfl)
   (try simp only [Act.put, pk1, pk2, pk3, pk4, pk5, pk6])
   refine wpAnyH_take (i := 2) (oi := _) (v := ?_) rfl (by kernel_rfl) (by kernel_rfl) (by kernel_rfl) (fun _ _ _ h => h) (Or.inl ⟨by rfl, ?_⟩) (by assumption) ?_;rotate_left
   ·intro wq hSw
    (try dsimp only at hSw)
    go_simp
    (try with_reducible rfl)
   (try simp only [Act.put, pk1, pk2, pk3, pk4, pk5, pk6])
   refine wpAnyH_take (i := 3) (oi := _) (v := ?_) rfl (by kernel_rfl) (by kernel_rfl) (by kernel_rfl) (fun _ _ _ h => h) (Or.inl ⟨by rfl, ?_⟩) (by assumption) ?_;rotate_left
   ·intro wq hSw
    (try dsimp only at hSw)
    go_simp
    (try with_reducible rfl)
   (try simp only [Act.put, pk1, pk2, pk3, pk4, pk5, pk6])
   refine wpAnyH_take (i := 4) (oi := _) (v := ?_) rfl (by kernel_rfl) (by kernel_rfl) (by kernel_rfl) (fun _ _ _ h => h) (Or.inl ⟨by rfl, ?_⟩) (by assumption) ?_;rotate_left
   ·intro wq hSw
    (try dsimp only at hSw)
    go_simp
    (try with_reducible rfl)
   (try simp only [Act.put, pk1, pk2, pk3, pk4, pk5, pk6])
   refine wpAnyH_take (i := 5) (oi := _) (v := _) rfl (by kernel_rfl) (by kernel_rfl) (by kernel_rfl) (fun _ _ _ h => h) (SE.yields (by rfl) _ rfl rfl) (by assumption) ?_
   (try simp only [Act.put, pk1, pk2, pk3, pk4, pk5, pk6])
   refine wpAnyH_take (i := 8) (oi := _) (v := ?_) rfl (by kernel_rfl) (by kernel_rfl) (by kernel_rfl) (fun _ _ _ h => h) (Or.inl ⟨by rfl, ?_⟩) (by assumption) ?_;rotate_left
   ·intro wq hSw
    (try dsimp only at hSw)
    go_simp
    (try with_reducible rfl)
   (try simp only [Act.put, pk1, pk2, pk3, pk4, pk5, pk6])
   refine wpAnyH_ready (rs := [6]) (by kernel_rfl) (by simp) ?_;refine AllReadyH.cons (o := _) rfl (fun K hK => ?_) AllReadyH.nil;go_simp
   go_at_call 19
   refine (HEV.out _ hHeld.ev).mono ?_;rintro e wA ⟨rfl, hbA⟩;replace hbA : Nx _ _ := hbA;refine hK.out _ _ ?_ (fun hHeld2 => ?_)
   ·exact SE.nx hbA hHeld
   clear hK K
   (try simp only [Act.put, pk1, pk2, pk3, pk4, pk5, pk6])
   clear hHeld;have hHeld := hHeld2;clear hHeld2;refine wpAnyH_ready (rs := [7]) (by kernel_rfl) (by simp) ?_;refine AllReadyH.cons (o := _) rfl (fun K hK => ?_) AllReadyH.nil;go_simp
   go_at_call 63
   refine (HAF.out _).mono ?_;rintro e wB ⟨rfl, hwB⟩;subst hwB;refine hK.out _ _ ?_ (fun hHeld2 => ?_)
   ·exact hHeld
   clear hK K
   (try simp only [Act.put, pk1, pk2, pk3, pk4, pk5, pk6])
   clear hHeld2
   cases hcv : (Ar.after wd (Ar.line e) == s.data.toList) with
   | true =>
    rw [hcv] at hcmp;refine wpAnyH_take (i := 9) (oi := _) (v := ?_) rfl (by kernel_rfl) (by kernel_rfl) (by kernel_rfl) (fun _ _ _ h => h) (Or.inl ⟨by rfl, ?_⟩) (by assumption) ?_;rotate_left
    ·intro wq hSw
     (try dsimp only at hSw)
     go_simp
     (try with_reducible rfl)
    (try simp only [Act.put, pk1, pk2, pk3, pk4, pk5, pk6])
    refine wpAnyH_take (i := 10) (oi := _) (v := ?_) rfl (by kernel_rfl) (by kernel_rfl) (by kernel_rfl) (fun _ _ _ h => h) (Or.inl ⟨by rfl, ?_⟩) (by assumption) ?_;rotate_left
    ·intro wq hSw
     (try dsimp only at hSw)
     go_simp
     (try with_reducible rfl)
    (try simp only [Act.put, pk1, pk2, pk3, pk4, pk5, pk6])
    refine wpAnyH_ready (rs := [11]) (by kernel_rfl) (by simp) ?_;refine AllReadyH.cons (o := _) rfl (fun K hK => ?_) AllReadyH.nil;refine SE.stores rfl hHeld _ _ rfl rfl rfl ?_;refine hK.out _ _ ?_ (fun hHeld2 => ?_)
    ·exact hHeld.set
    clear hK K
    (try simp only [Act.put, pk1, pk2, pk3, pk4, pk5, pk6])
    refine wpAnyH_take (i := 12) (oi := _) (v := ?_) rfl (by kernel_rfl) (by kernel_rfl) (by kernel_rfl) (fun _ _ _ h => h) (Or.inl ⟨by rfl, ?_⟩) (by assumption) ?_;rotate_left
    ·intro wq hSw
     (try dsimp only at hSw)
     go_simp
     (try with_reducible rfl)
    (try simp only [Act.put, pk1, pk2, pk3, pk4, pk5, pk6])
    refine wpAnyH_done (by kernel_rfl) ?_ _;refine NoPanic.normal ?_;obtain ⟨hk9, he9, hb9⟩ := hHeld.done;go_wp2_with fail;refine bodyPost_ret (Ac rfl _ _ w.heap.size _ X _ rfl hk9 Tryz.underlying40 rfl HS2.out) rfl ?_;exact ⟨.inl ⟨e, X, HYES.out (beq_iff_eq.1 hcv), rfl, he9⟩, hb9⟩
   | false =>
    rw [hcv] at hcmp;refine wpAnyH_take (i := 9) (oi := _) (v := ?_) rfl (by kernel_rfl) (by kernel_rfl) (by kernel_rfl) (fun _ _ _ h => h) (Or.inl ⟨by rfl, ?_⟩) (by assumption) ?_;rotate_left
    ·intro wq hSw
     (try dsimp only at hSw)
     go_simp
     (try with_reducible rfl)
    (try simp only [Act.put, pk1, pk2, pk3, pk4, pk5, pk6])
    refine wpAnyH_take (i := 10) (oi := _) (v := ?_) rfl (by kernel_rfl) (by kernel_rfl) (by kernel_rfl) (fun _ _ _ h => h) (Or.inl ⟨by rfl, ?_⟩) (by assumption) ?_;rotate_left
    ·intro wq hSw
     (try dsimp only at hSw)
     go_simp
     (try with_reducible rfl)
    (try simp only [Act.put, pk1, pk2, pk3, pk4, pk5, pk6])
    refine wpAnyH_ready (rs := [11]) (by kernel_rfl) (by simp) ?_;refine AllReadyH.cons (o := _) rfl (fun K hK => ?_) AllReadyH.nil;refine SE.stores rfl hHeld _ _ rfl rfl rfl ?_;refine hK.out _ _ ?_ (fun hHeld2 => ?_)
    ·exact hHeld.set
    clear hK K
    (try simp only [Act.put, pk1, pk2, pk3, pk4, pk5, pk6])
    refine wpAnyH_take (i := 12) (oi := _) (v := ?_) rfl (by kernel_rfl) (by kernel_rfl) (by kernel_rfl) (fun _ _ _ h => h) (Or.inl ⟨by rfl, ?_⟩) (by assumption) ?_;rotate_left
    ·intro wq hSw
     (try dsimp only at hSw)
     go_simp
     (try with_reducible rfl)
    (try simp only [Act.put, pk1, pk2, pk3, pk4, pk5, pk6])
    refine wpAnyH_done (by kernel_rfl) ?_ _;refine NoPanic.normal ?_;obtain ⟨hk9, he9, hb9⟩ := hHeld.done;go_wp2_with fail;refine bodyPost_ret (Ac rfl _ _ w.heap.size _ X _ rfl hk9 Tryz.underlying40 rfl HS2.out) rfl ?_;exact ⟨.inr ⟨HNO.out (beq_eq_false_iff_ne.1 hcv), X, rfl, by have := HS2.out; rw [Aj] at this; injection this with this; exact this.symm, HO2.out⟩, hb9⟩
  ·have HNO : Hid (Ar.By s.data.toList wd = none) := hid (J8 HP.out (HTE.out ▸ hpe));clear hpe;have HS2 : Hid ((Tryz.prog.info? 40).map (·.size) = some zeroEv.size) := hid (by rw [Aj]; rfl);go_wp2_with ((with_reducible refine AF rfl 40 _ _ rfl w2.heap.size zeroEv ?_ ?_ 40 _ (Blk.new w2 40 _) HS2.out ?_ Br ?_); rfl; rfl; rfl; intro w3 hk3 hs3 hbl3; have hz3 := ((Below.refl w2.heap.size w2).alloc (Nat.le_refl _) (.cells zeroEv 40)).trans (hbl3 w2.heap.size (Nat.le_refl _)); have HB3 := hid (HB2.out.trans (hz3.mono HB2.out.size)); have HR3 := hid (HR2.out.below hz3 hs2); have HK3 := hid hk3; clear hk3 hs3 hbl3 hz3);have hSE : SE w w2.heap.size zeroEv (Ar.zeros Ar.NK) w3 := ⟨(GH _ _), HK3.out, ⟨_, HR3.out, rfl⟩, HB3.out, hs2⟩;refine wp_region_noPanic ?_;refine wp_region_held_drew (S := fun W => SE w w2.heap.size zeroEv (Ar.zeros Ar.NK) W) (by kernel_rfl) hSE.drew (fun hHeld => ?_);refine wpAnyH_take (i := 0) (oi := _) (v := _) rfl (by kernel_rfl) (by kernel_rfl) (by kernel_rfl) (fun _ _ _ h => h) (SE.yields (by rfl) _ rfl rfl) (by assumption) ?_
   (try simp only [Act.put, pk1, pk2, pk3, pk4, pk5, pk6])
   refine wpAnyH_take (i := 1) (oi := _) (v := ?_) rfl (by kernel_rfl) (by kernel_rfl) (by kernel_rfl) (fun _ _ _ h => h) (Or.inl ⟨by rfl, ?_⟩) (by assumption) ?_;rotate_left
   ·intro wq hSw
    (try dsimp only at hSw)
    go_simp
    (try with_reducible rfl)
   (try simp only [Act.put, pk1, pk2, pk3, pk4, pk5, pk6])
   refine wpAnyH_take (i := 2) (oi := _) (v := ?_) rfl (by kernel_rfl) (by kernel_rfl) (by kernel_rfl) (fun _ _ _ h => h) (Or.inl ⟨by rfl, ?_⟩) (by assumption) ?_;rotate_left
   ·intro wq hSw
    (try dsimp only at hSw)
    go_simp
    (try with_reducible rfl)
   (try simp only [Act.put, pk1, pk2, pk3, pk4, pk5, pk6])
   refine wpAnyH_take (i := 3) (oi := _) (v := ?_) rfl (by kernel_rfl) (by kernel_rfl) (by kernel_rfl) (fun _ _ _ h => h) (Or.inl ⟨by rfl, ?_⟩) (by assumption) ?_;rotate_left
   ·intro wq hSw
    (try dsimp only at hSw)
    go_simp
    (try with_reducible rfl)
   (try simp only [Act.put, pk1, pk2, pk3, pk4, pk5, pk6])
   refine wpAnyH_take (i := 4) (oi := _) (v := undef) rfl (by kernel_rfl) (by kernel_rfl) (by kernel_rfl) (fun _ _ _ h => h) (Or.inr ⟨by rfl, rfl⟩) (by assumption) ?_
   (try simp only [Act.put, pk1, pk2, pk3, pk4, pk5, pk6])
   refine wpAnyH_take (i := 5) (oi := _) (v := undef) rfl (by kernel_rfl) (by kernel_rfl) (by kernel_rfl) (fun _ _ _ h => h) (Or.inr ⟨by rfl, rfl⟩) (by assumption) ?_
   (try simp only [Act.put, pk1, pk2, pk3, pk4, pk5, pk6])
   refine wpAnyH_take (i := 6) (oi := _) (v := undef) rfl (by kernel_rfl) (by kernel_rfl) (by kernel_rfl) (fun _ _ _ h => h) (Or.inr ⟨by rfl, rfl⟩) (by assumption) ?_
   (try simp only [Act.put, pk1, pk2, pk3, pk4, pk5, pk6])
   refine wpAnyH_take (i := 7) (oi := _) (v := undef) rfl (by kernel_rfl) (by kernel_rfl) (by kernel_rfl) (fun _ _ _ h => h) (Or.inr ⟨by rfl, rfl⟩) (by assumption) ?_
   (try simp only [Act.put, pk1, pk2, pk3, pk4, pk5, pk6])
   refine wpAnyH_take (i := 8) (oi := _) (v := undef) rfl (by kernel_rfl) (by kernel_rfl) (by kernel_rfl) (fun _ _ _ h => h) (Or.inr ⟨by rfl, rfl⟩) (by assumption) ?_
   (try simp only [Act.put, pk1, pk2, pk3, pk4, pk5, pk6])
   refine wpAnyH_take (i := 9) (oi := _) (v := undef) rfl (by kernel_rfl) (by kernel_rfl) (by kernel_rfl) (fun _ _ _ h => h) (Or.inr ⟨by rfl, rfl⟩) (by assumption) ?_
   (try simp only [Act.put, pk1, pk2, pk3, pk4, pk5, pk6])
   refine wpAnyH_take (i := 10) (oi := _) (v := ?_) rfl (by kernel_rfl) (by kernel_rfl) (by kernel_rfl) (fun _ _ _ h => h) (Or.inl ⟨by rfl, ?_⟩) (by assumption) ?_;rotate_left
   ·intro wq hSw
    (try dsimp only at hSw)
    go_simp
    (try with_reducible rfl)
   (try simp only [Act.put, pk1, pk2, pk3, pk4, pk5, pk6])
   refine wpAnyH_ready (rs := [11]) (by kernel_rfl) (by simp) ?_;refine AllReadyH.cons (o := _) rfl (fun K hK => ?_) AllReadyH.nil;refine SE.stores rfl hHeld _ _ rfl rfl rfl ?_;refine hK.out _ _ ?_ (fun hHeld2 => ?_)
   ·exact hHeld.set
   clear hK K
   (try simp only [Act.put, pk1, pk2, pk3, pk4, pk5, pk6])
   refine wpAnyH_take (i := 12) (oi := _) (v := ?_) rfl (by kernel_rfl) (by kernel_rfl) (by kernel_rfl) (fun _ _ _ h => h) (Or.inl ⟨by rfl, ?_⟩) (by assumption) ?_;rotate_left
   ·intro wq hSw
    (try dsimp only at hSw)
    go_simp
    (try with_reducible rfl)
   (try simp only [Act.put, pk1, pk2, pk3, pk4, pk5, pk6])
   refine wpAnyH_done (by kernel_rfl) ?_ _;refine NoPanic.normal ?_;obtain ⟨hk9, he9, hb9⟩ := hHeld.done;go_wp2_with fail;refine bodyPost_ret (Ac rfl _ _ w.heap.size _ zeroEv _ rfl hk9 Tryz.underlying40 rfl Aj) rfl ?_;exact ⟨.inr ⟨HNO.out, zeroEv, rfl, rfl, Br⟩, hb9⟩
 ·have hp' : hasPrefix s.data.toList wd = false := by simpa using hp
  have HP := hid hp';have HNO := hid (KT hp');clear hp hp';go_enter Tryz.func138, Tryz.ntmps138;go_wp2_with fail;refine (HCP.out _).mono ?_;rintro r w1 ⟨rfl, hw1⟩;have HR1 : Hid (Blk w1 w.heap.size 40 zeroEv) := hid (by rw [hw1]; exact HR0.out);have HB1 : Hid (Below w.heap.size w w1) := hid (by rw [hw1]; exact HB0.out);clear hw1;rw [HP.out];go_wp2_with ((with_reducible refine Aa rfl 40 _ _ rfl w.heap.size zeroEv ?_ ?_ 40 zeroEv HR1.out ?_ rfl Br ?_); rfl; rfl; exact Aj; intro wz hkz hsz hblz hotz);refine bodyPost_ret (Ac rfl _ _ w.heap.size _ zeroEv _ rfl hkz Tryz.underlying40 rfl Aj) rfl ?_;exact ⟨.inr ⟨HNO.out, zeroEv, rfl, rfl, Br⟩, HB1.out.trans (hblz _ (Nat.le_refl _))⟩
theorem emp_t {t : List UInt8} (h : t = []) : (bstr t).toList.isEmpty = true := by rw [h, Lib.toList_data]; rfl
theorem emp_f {t : List UInt8} (h : t ≠ []) : (bstr t).toList.isEmpty = false := by
 rw [Lib.toList_data];show t.isEmpty = false
 cases t with
 | nil => exact absurd rfl h
 | cons c b => rfl
section
variable {P : Program} {ops : Array Oper} {Q : Exit → Act → World → Prop} {md : Region.Mode} {C : World → Prop} {late : Nat → Bool}
def AnyT (P : Program) (md : Region.Mode) (ops : Array Oper) (Q : Exit → Act → World → Prop) (C : World → Prop) (late : Nat → Bool) : Nat → Array Bool → Act → World → Prop
 | 0, listed, a, w => Region.ready md ops listed = [] ∧ Q .normal a w
 | fuel + 1, listed, a, w =>
  (Region.ready md ops listed = [] → Q .normal a w) ∧
  ∀ i ∈ Region.ready md ops listed, wpOp P ops Q i (fun a' w' => (late i = true ∨ C w') ∧ AnyT P md ops Q C late fuel (listed.setIfInBounds i true) a' w') a w
theorem G3 : ∀ (fuel : Nat) (listed : Array Bool) (a : Act) (w : World), AnyT P md ops Q C late fuel listed a w → wpAny P md ops Q fuel listed a w
 | 0, _, _, _, h => h
 | fuel + 1, _, _, _, h => ⟨h.1, fun i hi => wpOp_mono (fun a' w' h' => G3 fuel _ a' w' h'.2) (h.2 i hi)⟩
theorem LW {i : Nat} {oi : Oper} {v : Value} (hi : ops[i]? = some oi) (hsel : ∀ (j : Nat) (o : Oper) cs b, ops[j]? = some o → o.op ≠ .select cs b)
  (hQ : ∀ c a w, Q (.panic c) (a.put oi.dst v) w → Q (.panic c) a w)
  (hlate : ∀ j oj, ops[j]? = some oj → late j = true → ∃ e ∈ oj.after, Region.binds md e = true ∧ e.on = i) :
  ∀ (fuel : Nat) (listed : Array Bool) (a : Act) (w : World),
   (∀ j oj, ops[j]? = some oj → j ≠ i → listed.getD j true = false → (∀ e ∈ oj.after, Region.binds md e = true → e.on ≠ i) → oi.apart ops oj = true) →
   i ∈ Region.ready md ops listed → YieldsIf P ops C oi v a → C w →
   AnyT P md ops Q C late fuel (listed.setIfInBounds i true) (a.put oi.dst v) w → AnyT P md ops Q C late (fuel + 1) listed a w := by
 intro fuel
 induction fuel with
 | zero =>
  intro listed a w _ hr hy hS H;refine ⟨fun h => (by rw [h] at hr; cases hr), fun j hj => ?_⟩;by_cases hji : j = i
  ·subst hji; exact hy.wpOp hi hS ⟨.inr hS, H⟩
  ·have := ready_mono hj hji;rw [H.1] at this;cases this
 | succ fuel ih =>
  intro listed a w hfree hr hy hS H;refine ⟨fun h => (by rw [h] at hr; cases hr), fun j hj => ?_⟩;by_cases hji : j = i
  ·subst hji; exact hy.wpOp hi hS ⟨.inr hS, H⟩
  ·have h1 := H.2 j (ready_mono hj hji);obtain ⟨hjun, oj, hoj, hall⟩ := mem_ready.1 hj;have hnot : ∀ e ∈ oj.after, Region.binds md e = true → e.on ≠ i := fun e he hb heq => by
    have h1 := hall e he hb;have h0 := (mem_ready.1 hr).1;rw [heq] at h1;rcases Nat.lt_or_ge i listed.size with h' | h'
    ·simp [h'] at h0 h1; rw [h0] at h1; cases h1
    ·simp [Array.getElem?_eq_none h'] at h1
   have hjl : late j ≠ true := fun hl => by
    obtain ⟨e, he, hb, heq⟩ := hlate j oj hoj hl;exact hnot e he hb heq
   have h2 := wpOp_putIf hoj (hfree j oj hoj hji hjun hnot) (fun cs b => hsel i oi cs b hi) (fun cs b => hsel j oj cs b hoj) hQ hy h1
   have hfree' : ∀ k ok, ops[k]? = some ok → k ≠ i → (listed.setIfInBounds j true).getD k true = false →
     (∀ e ∈ ok.after, Region.binds md e = true → e.on ≠ i) → oi.apart ops ok = true := fun k ok hk hki hun hno => by
    refine hfree k ok hk hki ?_ hno;by_cases hjk : j = k
    ·subst hjk; exact hjun
    ·rw [getD_set_ne true hjk] at hun; exact hun
   refine wpOp_mono (fun a' w' h3 => ⟨h3.2.1, ih (listed.setIfInBounds j true) a' w' hfree' (ready_mono hr (Ne.symm hji)) h3.1 (h3.2.1.resolve_left hjl) ?_⟩) h2;rw [Array.setIfInBounds_comm _ _ hji];exact h3.2.2
def GV (md : Region.Mode) (ops : Array Oper) (late : Nat → Bool) (i : Nat) : Bool := (List.range ops.size).all fun j => !late j || match ops[j]? with
 | some oj => oj.after.any fun e => Region.binds md e && e.on == i
 | none => true
theorem KM {i : Nat} (h : GV md ops late i = true) : ∀ j oj, ops[j]? = some oj → late j = true → ∃ e ∈ oj.after, Region.binds md e = true ∧ e.on = i := by
 intro j oj hj hl;unfold GV at h;rw [List.all_eq_true] at h;have h1 := h j (List.mem_range.2 (Array.getElem?_eq_some_iff.1 hj).1);rw [hl, hj] at h1;simp only [Bool.not_true, Bool.false_or, Array.any_eq_true', Bool.and_eq_true, beq_iff_eq] at h1;obtain ⟨e, he, hb⟩ := h1;exact ⟨e, he, hb⟩
theorem AY {i : Nat} {oi : Oper} {v : Value} {fuel : Nat} {listed : Array Bool} {a : Act} {w : World} (hi : ops[i]? = some oi)
  (hs : Region.noSelect ops = true) (hf : Region.free md ops listed i = true) (hr : (Region.ready md ops listed).contains i = true) (hl : GV md ops late i = true)
  (hQ : ∀ c a w, Q (.panic c) (a.put oi.dst v) w → Q (.panic c) a w) (hy : YieldsIf P ops C oi v a) (hS : C w)
  (h : AnyT P md ops Q C late fuel (listed.setIfInBounds i true) (a.put oi.dst v) w) : AnyT P md ops Q C late (fuel + 1) listed a w :=
 LW hi (Region.noSelect_spec hs) hQ (KM hl) fuel listed a w (Region.free_spec hi hf) (by simpa using hr) hy hS h
def ReadyT (P : Program) (md : Region.Mode) (ops : Array Oper) (Q : Exit → Act → World → Prop) (C : World → Prop) (late : Nat → Bool) (fuel : Nat) (listed : Array Bool) (a : Act) (w : World) (rs : List Nat) : Prop :=
 ∀ i ∈ rs, wpOp P ops Q i (fun a' w' => (late i = true ∨ C w') ∧ AnyT P md ops Q C late fuel (listed.setIfInBounds i true) a' w') a w
theorem ReadyT.nil {fuel : Nat} {listed : Array Bool} {a : Act} {w : World} : ReadyT P md ops Q C late fuel listed a w [] := fun _ h => by cases h
theorem ReadyT.cons {fuel : Nat} {listed : Array Bool} {a : Act} {w : World} {i : Nat} {o : Oper} {rs : List Nat} (ho : ops[i]? = some o)
  (h : ∀ K' : Act → World → Prop, Shut (∀ a w, (late i = true ∨ C w) → AnyT P md ops Q C late fuel (listed.setIfInBounds i true) a w → K' a w) → if Region.wanted o (yielded ops a.tmps) = true then Oper.wp P o a w K' Q else K' (a.put o.dst undef) w)
  (hs : ReadyT P md ops Q C late fuel listed a w rs) : ReadyT P md ops Q C late fuel listed a w (i :: rs) := fun j hj => by
 rcases List.mem_cons.1 hj with rfl | hj
 ·exact wpOp_step ho (fun K' hK => h K' (fun a w hS hW => hK a w ⟨hS, hW⟩))
 ·exact hs j hj
theorem AP {rs : List Nat} {fuel : Nat} {listed : Array Bool} {a : Act} {w : World} (hr : Region.ready md ops listed = rs) (hne : rs ≠ [])
  (h : ReadyT P md ops Q C late fuel listed a w rs) : AnyT P md ops Q C late (fuel + 1) listed a w := ⟨fun h0 => absurd (hr ▸ h0) hne, hr ▸ h⟩
theorem Fw {listed : Array Bool} {a : Act} {w : World} (hr : Region.ready md ops listed = []) (h : Q .normal a w) :
  ∀ fuel, AnyT P md ops Q C late fuel listed a w
 | 0 => ⟨hr, h⟩
 | _ + 1 => ⟨fun _ => h, by rw [hr]; simp⟩
theorem DZ (C : World → Prop) (late : Nat → Bool) {id : Nat} {a : Act} {w : World} (hm : P.follows .mixedOrders = true) (hS : C w.drew)
  (h : C w.drew → AnyT P .any ops Q C late ops.size (Array.replicate ops.size false) a w.drew) : (Code.region id ops true).wp P Q a w :=
 wp_region_any hm (G3 _ _ _ _ (h hS))
end
theorem Dg {T : TypeId} {d : TypeDesc} {C : World → Prop} {be : Nat} {X : Array Value} {ops : Array Oper} {op : Oper} {a : Act} (hd : (match d with | .struct _ | .array _ _ => true | _ => false) = true) (hu : Tryz.prog.underlying T = some d) (hi : (Tryz.prog.info? T).map (·.size) = some X.size) (hC : ∀ W, C W → Blk W be T X)
  (hw : Region.wanted op (yielded ops a.tmps) = true) (x : Operand) (ho : op.op = .load T x) (hx : a.eval x = .pointer (some ⟨be, 0, none⟩)) : YieldsIf Tryz.prog ops C op (.agg X) a :=
 .inl ⟨hw, fun w hw' => by
  unfold execOp
  simp only [ho, hx, Instr.loadAt, Instr.sureAddr, Sem.run_bind, Sem.run_pure, Result.andThen_ok, run_loadVar_row w be T T X (0, 0) d (hC w hw') hu (by cases d <;> first | rfl | cases hd) hi]⟩
theorem JN : ∀ (l : List Value) (k : Nat) (Z : Array Value) (j : Nat), ((l.zipIdx k).foldl (fun cs x => cs.setIfInBounds x.2 x.1) Z)[j]? = if k ≤ j ∧ j < k + l.length ∧ j < Z.size then l[j - k]? else Z[j]?
 | [], k, Z, j => by
  rw [if_neg (by simp only [List.length_nil]; omega)];rfl
 | c :: l, k, Z, j => by
  show ((l.zipIdx (k + 1)).foldl _ (Z.setIfInBounds k c))[j]? = _;rw [JN l (k + 1) (Z.setIfInBounds k c) j, Array.size_setIfInBounds, Array.getElem?_setIfInBounds];by_cases hkj : k = j
  ·subst hkj;rw [if_neg (by omega), if_pos rfl];by_cases hz : k < Z.size
   ·rw [if_pos hz, if_pos ⟨Nat.le_refl _, by simp, hz⟩, Nat.sub_self];rfl
   ·rw [if_neg hz, if_neg (fun h => hz h.2.2), Array.getElem?_eq_none (by omega)]
  ·rw [if_neg hkj];by_cases h : k + 1 ≤ j ∧ j < k + 1 + l.length ∧ j < Z.size
   ·rw [if_pos h, if_pos ⟨by omega, by simp only [List.length_cons]; omega, h.2.2⟩, show j - k = (j - (k + 1)) + 1 by omega];rfl
   ·rw [if_neg h, if_neg (fun h2 => h ⟨by omega, by have := h2.2.1; simp only [List.length_cons] at this; omega, h2.2.2⟩)]
theorem IP (X Z : Array Value) (h : Z.size = X.size) : X.zipIdx.foldl (fun cs x => cs.setIfInBounds x.2 x.1) Z 0 X.size = X := by
 have e : X.size = X.zipIdx.size := by simp
 rw [e, ← Array.foldl_toList, Array.toList_zipIdx];apply Array.ext_getElem?;intro j;rw [JN, Array.length_toList, Nat.zero_add, Nat.sub_zero];by_cases hj : j < X.size
 ·rw [if_pos ⟨Nat.zero_le _, hj, by omega⟩, Array.getElem?_toList]
 ·rw [if_neg (fun h => hj h.2.1), Array.getElem?_eq_none (by omega), Array.getElem?_eq_none (by omega)]
theorem KP {w : World} {base size n : Nat} {e : TypeId} {v : Value} {xs ys : List Value} (h1 : w.ownsRow base e size v n xs) (h2 : w.ownsRow base e size v n ys) : xs = ys := by
 obtain ⟨a1, b1⟩ := h1;obtain ⟨a2, b2⟩ := h2;rcases b1 with ⟨rfl, rfl⟩ | ⟨g, cap, cur, rfl, hg, hh, hn, hcap, hsz, ht⟩
 ·rw [Nat.zero_mul] at a1 a2;rw [List.eq_nil_of_length_eq_zero a1, List.eq_nil_of_length_eq_zero a2]
 ·rcases b2 with ⟨e1, _⟩ | ⟨g', cap', cur', e1, hg', hh', hn', hcap', hsz', ht'⟩
  ·cases e1
  ·injection e1 with e2 e3 e4;injection e2 with e2;injection e2 with e5 e6;subst e5;rw [hh] at hh';injection hh' with hh';injection hh' with hh';subst hh';rw [← ht, ← ht']
theorem chb {w w' : World} {g : Nat} {row : Option Nat} (hb : Below w.heap.size w w') : Ch w w' g row := ⟨hb.os, hb.tape, hb.output, hb.size, fun k hk _ _ => hb.block k hk⟩
theorem Pu {w w3 w10 : World} {g i : Nat} {O : List (Option Nat)} {o o' : Option Nat} {X : Array Value} {e : List Ar.FV} (h : EvOf (fun b => w.heap.size ≤ b) w3 X e) (hg : g < w.heap.size) (hO : ∀ o ∈ O, ∀ k, o = some k → k < w.heap.size) (hi : O[i]? = some o) (hf : Fresh w3.heap.size o o') (hch : Ch w3 w10 g o) : EvOf (far g (O.set i o')) w10 X e := by
 refine h.keep fun b hb hlt => ⟨⟨by omega, fun hm => ?_⟩, hch.block b hlt (by omega) (fun e => ?_)⟩
 ·rcases BU hi hf _ hm with h1 | ⟨k, hk, e⟩
  ·have := hO _ h1 b rfl; omega
  ·injection e with e; omega
 ·have := hO _ (List.mem_of_getElem? hi) b e.symm; omega
theorem QK : (Tryz.prog.info? 40).map (fun i => (i.zero, i.size, i.bytes)) = some (some (.agg zeroEv), 29, 376) := by kernel_rfl
theorem rowEv : RowT 48 40 29 376 := ⟨Tryz.underlying48, ⟨_, QK, rfl⟩, by decide, by decide⟩
theorem JU (s : ByteArray) (g : Nat) (r : Ar.Rm) (w : World) (hs : s.size ≤ 100000) (hRd : Ready w) (hx : RmX w g r) (hg3 : 3 ≤ g) (hn : r.num ≤ 1000000) (hw : (Lib.cut s.data.toList [32]).1 = [101, 118, 101, 110, 116]) : Calls Tryz.prog 77 #[.string s, .pointer (some ⟨g, 0, none⟩)] w (RlA g w (Ar.AG s.data.toList r)) := by
 have HL : Hid (Ar.AG s.data.toList r = Ar.retK r 2 ((Ar.By s.data.toList [101, 118, 101, 110, 116]).map fun e => Ar.upE r e)) := hid (by rw [Ar.Bh, hw, if_pos (show [101, 118, 101, 110, 116] = Ar.evN from rfl)]; rfl);obtain ⟨mx, hmx⟩ := hRd.1;have hcut := Tryz.strings_Cut s ⟨#[32]⟩ mx w (by omega) hmx;rw [show (⟨#[32]⟩ : ByteArray).data.toList = [32] from rfl, hw] at hcut;rw [show (⟨[101, 118, 101, 110, 116].toArray⟩ : ByteArray) = bstr [101, 118, 101, 110, 116] from rfl] at hcut;have HCUT := hid hcut;have h1 : ((bstr [101, 118, 101, 110, 116]).toList == [101, 118, 101, 110, 116]) = true := by rw [Ay]; rfl
 have HQ := hid (fun q => IS s [101, 118, 101, 110, 116] (w.drewN q) hs (by decide) (hRd.below (below_drewN (Below.refl _ _) q)));obtain ⟨cE, cR, cW, cH, cS, cC, cT, hrm0⟩ := hx;have HR0 := hid hrm0;have hlt := hrm0.blk.lt;rw [HL.out];clear hcut hmx hw hRd hrm0 HL;generalize (Lib.cut s.data.toList [32]).2.1.toArray = S2 at *;generalize (Lib.cut s.data.toList [32]).2.2 = B2 at *;generalize hSW : bstr [101, 118, 101, 110, 116] = SW at *;go_enter Tryz.func77, Tryz.ntmps77;go_wp2_with fail;refine HCUT.out.mono ?_;rintro e w1 ⟨rfl, q2, rfl⟩;go_wp2_with fail;refine (HQ.out q2).mono ?_;rintro r0 w2 ⟨hev, hb2⟩;have HX2 : Hid (RmO w2 g r cE cR cW cH cS cC cT) := hid (HR0.out.below ⟨hb2.os, hb2.tape, hb2.output, hb2.size, hb2.block⟩);have HB2 : Hid (Below w.heap.size w w2) := hid ⟨hb2.os, hb2.tape, hb2.output, hb2.size, hb2.block⟩;clear hb2;rcases hev with ⟨e, X, he, rfl, hx2⟩ | ⟨he, X, rfl, hxs, hx1⟩
 ·have HE := hid he;have HV2 : Hid (EvOf (fun b => w.heap.size ≤ b) w2 X e) := hid hx2;have HS2 : Hid ((Tryz.prog.info? 40).map (·.size) = some X.size) := hid (by rw [Aj, hx2.size]);have HO2 := hid hx2.one;have HZ2 : Hid (zeroEv.size = X.size) := hid (by rw [hx2.size]; rfl);clear he hx2;go_wp2_with ((with_reducible refine AF rfl 40 _ _ rfl w2.heap.size X ?_ ?_ 40 _ (Blk.new w2 40 _) HS2.out ?_ HO2.out ?_); rfl; rfl; exact HZ2.out; intro w3 hk3 hs3 hbl3; have hz3 := ((Below.refl w2.heap.size w2).alloc (Nat.le_refl _) (.cells zeroEv 40)).trans (hbl3 w2.heap.size (Nat.le_refl _)); have HRM := hid (HX2.out.below hz3); have HB3 := hid (HB2.out.trans (hz3.mono HB2.out.size)); have HV3 := hid (HV2.out.below hz3); have HK3 := hid hk3; clear hk3 hs3 hbl3 hz3);have hrm := HRM.out;have hs2 := HB2.out.size;have hs3 := HB3.out.size;have hk3 := HK3.out.lt;obtain ⟨xs, hown, _⟩ := hrm.ev;have HOWN := hid hown;obtain ⟨A0, c0, rfl⟩ := Ax hown;have HLT : Hid (∀ k, (Value.slice A0 r.events.length c0).ownBlock = some k → g + 1 ≤ k ∧ k < w.heap.size) := hid (fun k hk => ⟨(HOWN.out.lt k hk).1, HR0.out.lt _ (by unfold ownL; simp) k hk⟩);clear hown;have hc0 := hrm.blk.cell 1;have hf0 := hrm.blk.frozen 1;rw [show (#[.string (bstr r.id), .slice A0 r.events.length c0, cR, cW, cH, cS, .int .i64 r.next, cC, cT] : Array Value)[1]? = some (.slice A0 r.events.length c0) from rfl] at hc0;clear hrm;have HSX : Hid (X.size = 29) := hid (by have := HS2.out; rw [Aj] at this; injection this with this; exact this.symm);have hnum : r.events.length ≤ 1000000 := by unfold Ar.Rm.num at hn; omega
  refine wp_region_noPanic ?_;refine DZ (fun W => W.cell? ⟨g, 1, none⟩ = some (.slice A0 r.events.length c0) ∧ Blk W w2.heap.size 40 X) (fun i => i == 10) (by kernel_rfl) ⟨hc0, HK3.out.drew⟩ (fun hHeld => ?_);refine AY (i := 0) (oi := _) (v := ?_) rfl (by kernel_rfl) (by kernel_rfl) (by kernel_rfl) (by kernel_rfl) (fun _ _ _ h => h) (Or.inl ⟨by rfl, ?_⟩) hHeld ?_;rotate_left
  ·intro wq hSw;obtain ⟨hSw1, hSw2⟩ := hSw;go_simp
   (try with_reducible rfl)
  (try simp only [Act.put, pk1, pk2, pk3, pk4, pk5, pk6])
  refine AY (i := 1) (oi := _) (v := ?_) rfl (by kernel_rfl) (by kernel_rfl) (by kernel_rfl) (by kernel_rfl) (fun _ _ _ h => h) (Or.inl ⟨by rfl, ?_⟩) hHeld ?_;rotate_left
  ·intro wq hSw;obtain ⟨hSw1, hSw2⟩ := hSw;go_simp
   (try with_reducible rfl)
  (try simp only [Act.put, pk1, pk2, pk3, pk4, pk5, pk6])
  refine AY (i := 2) (oi := _) (v := ?_) rfl (by kernel_rfl) (by kernel_rfl) (by kernel_rfl) (by kernel_rfl) (fun _ _ _ h => h) (Or.inl ⟨by rfl, ?_⟩) hHeld ?_;rotate_left
  ·intro wq hSw;obtain ⟨hSw1, hSw2⟩ := hSw;go_simp
   (try with_reducible rfl)
  (try simp only [Act.put, pk1, pk2, pk3, pk4, pk5, pk6])
  refine AY (i := 3) (oi := _) (v := ?_) rfl (by kernel_rfl) (by kernel_rfl) (by kernel_rfl) (by kernel_rfl) (fun _ _ _ h => h) (Or.inl ⟨by rfl, ?_⟩) hHeld ?_;rotate_left
  ·intro wq hSw;obtain ⟨hSw1, hSw2⟩ := hSw;go_simp
   (try with_reducible rfl)
  (try simp only [Act.put, pk1, pk2, pk3, pk4, pk5, pk6])
  refine AY (i := 4) (oi := _) (v := ?_) rfl (by kernel_rfl) (by kernel_rfl) (by kernel_rfl) (by kernel_rfl) (fun _ _ _ h => h) (Or.inl ⟨by rfl, ?_⟩) hHeld ?_;rotate_left
  ·intro wq hSw;obtain ⟨hSw1, hSw2⟩ := hSw;go_simp
   (try with_reducible rfl)
  (try simp only [Act.put, pk1, pk2, pk3, pk4, pk5, pk6])
  refine AY (i := 5) (oi := _) (v := _) rfl (by kernel_rfl) (by kernel_rfl) (by kernel_rfl) (by kernel_rfl) (fun _ _ _ h => h) (Dg rfl Tryz.underlying40 HS2.out (fun W h => h.2) (by rfl) _ rfl rfl) hHeld ?_
  (try simp only [Act.put, pk1, pk2, pk3, pk4, pk5, pk6])
  refine AP (rs := [6]) (by kernel_rfl) (by simp) ?_;refine ReadyT.cons (o := _) rfl (fun K hK => ?_) ReadyT.nil;go_simp;rw [if_neg (by have hx := HSX.out; rintro (h | h); exact (of_decide_eq_true h) hx; omega), IP X _ (by rw [HSX.out]; rfl)];go_simp;refine hK.out _ _ (.inr ⟨(HRM.out.blk.drew.alloc (.cells X 40)).cell 1, HK3.out.drew.alloc (.cells X 40)⟩) ?_;clear hK K
  (try simp only [Act.put, pk1, pk2, pk3, pk4, pk5, pk6])
  have hHeld1 : (w3.drew.alloc (.cells X 40)).cell? ⟨g, 1, none⟩ = some (.slice A0 r.events.length c0) ∧ Blk (w3.drew.alloc (.cells X 40)) w2.heap.size 40 X := ⟨(HRM.out.blk.drew.alloc (.cells X 40)).cell 1, HK3.out.drew.alloc (.cells X 40)⟩;refine AP (rs := [7]) (by kernel_rfl) (by simp) ?_;refine ReadyT.cons (o := _) rfl (fun K hK => ?_) ReadyT.nil;refine DD rowEv rfl _ _ rfl (w3.drew.alloc (.cells X 40)) (.slice A0 r.events.length c0) r.events.length xs X.toList (g + 1) ?_ (HOWN.out.drew.alloc _) w3.heap.size 1 1 ?_ (by rw [Array.length_toList, HSX.out]) (fun u hu => by have := HO2.out; rw [Array.all_eq_true_iff_forall_mem] at this; exact this u (by simpa using hu)) (fun j u hu => by rw [show w3.heap.size = w3.drew.heap.size from rfl, (Blk.new w3.drew 40 X).cell j, ← Array.getElem?_toList]; exact hu) (by rw [World.size_alloc]; show g + 1 ≤ w3.heap.size + 1; omega) (by omega) ?_
  ·kernel_rfl
  ·kernel_rfl
  intro v9 w9 ho9 hg9 hb9 hwh9;obtain ⟨A9, c9, rfl⟩ := Ax ho9;have HKG9 := hid ((HRM.out.blk.drew.alloc (.cells X 40)).grown hg9 (by intro e; have := (HLT.out g e.symm).1; omega));have HKB9 := hid ((HK3.out.drew.alloc (.cells X 40)).grown hg9 (by intro e; have := (HLT.out _ e.symm).2; omega));have hf9 := HKG9.out.frozen 1;have hc9 := HKG9.out.cell 1;rw [show (#[.string (bstr r.id), .slice A0 r.events.length c0, cR, cW, cH, cS, .int .i64 r.next, cC, cT] : Array Value)[1]? = some (.slice A0 r.events.length c0) from rfl] at hc9;have HCH := hid ((((chb (g := g) (row := (Value.slice A0 r.events.length c0).ownBlock) (((Below.refl w3.heap.size w3).drew).alloc (Nat.le_refl _) (.cells X 40))).grown hg9).set 1 (.slice A9 (r.events.length + 1) c9)))
  have HFR : Hid (Fresh w3.heap.size (Value.slice A0 r.events.length c0).ownBlock (Value.slice A9 (r.events.length + 1) c9).ownBlock) := hid (by
   rcases hwh9 with h | h
   ·exact .inl h
   ·exact .inr ⟨_, by rw [World.size_alloc]; exact Nat.le_succ _, h⟩)
  have HKG := hid (HKG9.out.set_ 1 (.slice A9 (r.events.length + 1) c9));rw [show (#[.string (bstr r.id), .slice A0 r.events.length c0, cR, cW, cH, cS, .int .i64 r.next, cC, cT] : Array Value).setIfInBounds 1 (.slice A9 (r.events.length + 1) c9) = #[.string (bstr r.id), .slice A9 (r.events.length + 1) c9, cR, cW, cH, cS, .int .i64 r.next, cC, cT] from rfl] at HKG;have HOW := hid (CQ (i := 1) (u := .slice A9 (r.events.length + 1) c9) ho9 (Nat.lt_succ_self g))
  have HFIN : Hid (RlA g w (Ar.retK r 2 ((Ar.By s.data.toList [101, 118, 101, 110, 116]).map fun e => Ar.upE r e)) (.returned (.int .i64 2)) (w9.setCell ⟨g, 1, none⟩ (.slice A9 (r.events.length + 1) c9))) := hid (by
   rw [HE.out];refine ⟨⟨rfl, fun _ => ⟨_, _, _, _, _, _, _, HRM.out.evStep HKG.out HCH.out HFR.out (fun ys hys => by rw [KP hys HOWN.out]; exact HOW.out) (Pu (i := 0) HV3.out hlt HR0.out.lt rfl HFR.out HCH.out)⟩⟩, ?_⟩
   exact (HB3.out.mono (Nat.le_of_lt hlt)).trans (HCH.out.low (by omega) (fun k e => by have := (HLT.out k e).1; omega)))
  refine hK.out _ _ (.inr ⟨hc9, HKB9.out⟩) ?_;clear hK K hHeld hHeld1 ho9 hg9 hb9 hwh9
  (try simp only [Act.put, pk1, pk2, pk3, pk4, pk5, pk6])
  have hHeld : w9.cell? ⟨g, 1, none⟩ = some (.slice A0 r.events.length c0) ∧ Blk w9 w2.heap.size 40 X := ⟨hc9, HKB9.out⟩;refine AP (rs := [8]) (by kernel_rfl) (by simp) ?_;refine ReadyT.cons (o := _) rfl (fun K hK => ?_) ReadyT.nil;go_simp;refine hK.out _ _ (.inr hHeld) ?_;clear hK K
  (try simp only [Act.put, pk1, pk2, pk3, pk4, pk5, pk6])
  refine AP (rs := [9]) (by kernel_rfl) (by simp) ?_;refine ReadyT.cons (o := _) rfl (fun K hK => ?_) ReadyT.nil;go_simp;refine hK.out _ _ (.inr hHeld) ?_;clear hK K
  (try simp only [Act.put, pk1, pk2, pk3, pk4, pk5, pk6])
  refine AP (rs := [10]) (by kernel_rfl) (by simp) ?_;refine ReadyT.cons (o := _) rfl (fun K hK => ?_) ReadyT.nil;go_simp;refine hK.out _ _ (.inl rfl) ?_;clear hK K
  (try simp only [Act.put, pk1, pk2, pk3, pk4, pk5, pk6])
  refine Fw (by kernel_rfl) ?_ _;refine NoPanic.normal ?_;go_wp2_with fail;go_ret;exact HFIN.out
 ·have HNO := hid he;have HS2 : Hid ((Tryz.prog.info? 40).map (·.size) = some X.size) := hid (by rw [Aj, hxs]);have HZ2 : Hid (zeroEv.size = X.size) := hid (by rw [hxs]; rfl);have HO2 := hid hx1;clear he hxs hx1;go_wp2_with ((with_reducible refine AF rfl 40 _ _ rfl w2.heap.size X ?_ ?_ 40 _ (Blk.new w2 40 _) HS2.out ?_ HO2.out ?_); rfl; rfl; exact HZ2.out; intro w3 hk3 hs3 hbl3; have HB3 := hid (HB2.out.trans ((((Below.refl w2.heap.size w2).alloc (Nat.le_refl _) (.cells zeroEv 40)).trans (hbl3 w2.heap.size (Nat.le_refl _))).mono HB2.out.size)); clear hk3 hs3 hbl3);go_ret;rw [HNO.out];exact ⟨⟨rfl, fun h => absurd rfl h⟩, HB3.out.mono (Nat.le_of_lt hlt)⟩
theorem KU (s : ByteArray) (g : Nat) (r : Ar.Rm) (w : World) (hs : s.size ≤ 100000) (hRd : Ready w) (hx : RmX w g r) (hg3 : 3 ≤ g) (hn : r.num ≤ 1000000) (hw : (Lib.cut s.data.toList [32]).1 = [119, 97, 105, 116]) : Calls Tryz.prog 77 #[.string s, .pointer (some ⟨g, 0, none⟩)] w (RlA g w (Ar.AG s.data.toList r)) := by
 have HL : Hid (Ar.AG s.data.toList r = Ar.retK r 4 ((Ar.By s.data.toList [119, 97, 105, 116]).map fun e => Ar.upW r e)) := hid (by rw [Ar.Bh, hw, if_neg (by decide), if_pos (show [119, 97, 105, 116] = Ar.waitN from rfl)]; rfl);obtain ⟨mx, hmx⟩ := hRd.1;have hcut := Tryz.strings_Cut s ⟨#[32]⟩ mx w (by omega) hmx;rw [show (⟨#[32]⟩ : ByteArray).data.toList = [32] from rfl, hw] at hcut;rw [show (⟨[119, 97, 105, 116].toArray⟩ : ByteArray) = bstr [119, 97, 105, 116] from rfl] at hcut;have HCUT := hid hcut;have h1 : ((bstr [119, 97, 105, 116]).toList == [101, 118, 101, 110, 116]) = false := by rw [Ay]; rfl
 have h2 : ((bstr [119, 97, 105, 116]).toList == [119, 97, 105, 116]) = true := by rw [Ay]; rfl
 have HQ := hid (fun q => IS s [119, 97, 105, 116] (w.drewN q) hs (by decide) (hRd.below (below_drewN (Below.refl _ _) q)));obtain ⟨cE, cR, cW, cH, cS, cC, cT, hrm0⟩ := hx;have HR0 := hid hrm0;have hlt := hrm0.blk.lt;rw [HL.out];clear hcut hmx hw hRd hrm0 HL;generalize (Lib.cut s.data.toList [32]).2.1.toArray = S2 at *;generalize (Lib.cut s.data.toList [32]).2.2 = B2 at *;generalize hSW : bstr [119, 97, 105, 116] = SW at *;go_enter Tryz.func77, Tryz.ntmps77;go_wp2_with fail;refine HCUT.out.mono ?_;rintro e w1 ⟨rfl, q2, rfl⟩;go_wp2_with fail;refine (HQ.out q2).mono ?_;rintro r0 w2 ⟨hev, hb2⟩;have HX2 : Hid (RmO w2 g r cE cR cW cH cS cC cT) := hid (HR0.out.below ⟨hb2.os, hb2.tape, hb2.output, hb2.size, hb2.block⟩);have HB2 : Hid (Below w.heap.size w w2) := hid ⟨hb2.os, hb2.tape, hb2.output, hb2.size, hb2.block⟩;clear hb2;rcases hev with ⟨e, X, he, rfl, hx2⟩ | ⟨he, X, rfl, hxs, hx1⟩
 ·have HE := hid he;have HV2 : Hid (EvOf (fun b => w.heap.size ≤ b) w2 X e) := hid hx2;have HS2 : Hid ((Tryz.prog.info? 40).map (·.size) = some X.size) := hid (by rw [Aj, hx2.size]);have HO2 := hid hx2.one;have HZ2 : Hid (zeroEv.size = X.size) := hid (by rw [hx2.size]; rfl);clear he hx2;go_wp2_with ((with_reducible refine AF rfl 40 _ _ rfl w2.heap.size X ?_ ?_ 40 _ (Blk.new w2 40 _) HS2.out ?_ HO2.out ?_); rfl; rfl; exact HZ2.out; intro w3 hk3 hs3 hbl3; have hz3 := ((Below.refl w2.heap.size w2).alloc (Nat.le_refl _) (.cells zeroEv 40)).trans (hbl3 w2.heap.size (Nat.le_refl _)); have HRM := hid (HX2.out.below hz3); have HB3 := hid (HB2.out.trans (hz3.mono HB2.out.size)); have HV3 := hid (HV2.out.below hz3); have HK3 := hid hk3; clear hk3 hs3 hbl3 hz3);have hrm := HRM.out;have hs2 := HB2.out.size;have hs3 := HB3.out.size;have hk3 := HK3.out.lt;obtain ⟨xs, hown, _⟩ := hrm.wait;have HOWN := hid hown;obtain ⟨A0, c0, rfl⟩ := Ax hown;have HLT : Hid (∀ k, (Value.slice A0 r.waiting.length c0).ownBlock = some k → g + 1 ≤ k ∧ k < w.heap.size) := hid (fun k hk => ⟨(HOWN.out.lt k hk).1, HR0.out.lt _ (by unfold ownL; simp) k hk⟩);clear hown;have hc0 := hrm.blk.cell 3;have hf0 := hrm.blk.frozen 3;rw [show (#[.string (bstr r.id), cE, cR, .slice A0 r.waiting.length c0, cH, cS, .int .i64 r.next, cC, cT] : Array Value)[3]? = some (.slice A0 r.waiting.length c0) from rfl] at hc0;clear hrm;have HSX : Hid (X.size = 29) := hid (by have := HS2.out; rw [Aj] at this; injection this with this; exact this.symm);have hnum : r.waiting.length ≤ 1000000 := by unfold Ar.Rm.num at hn; omega
  refine wp_region_noPanic ?_;refine DZ (fun W => W.cell? ⟨g, 3, none⟩ = some (.slice A0 r.waiting.length c0) ∧ Blk W w2.heap.size 40 X) (fun i => i == 10) (by kernel_rfl) ⟨hc0, HK3.out.drew⟩ (fun hHeld => ?_);refine AY (i := 0) (oi := _) (v := ?_) rfl (by kernel_rfl) (by kernel_rfl) (by kernel_rfl) (by kernel_rfl) (fun _ _ _ h => h) (Or.inl ⟨by rfl, ?_⟩) hHeld ?_;rotate_left
  ·intro wq hSw;obtain ⟨hSw1, hSw2⟩ := hSw;go_simp
   (try with_reducible rfl)
  (try simp only [Act.put, pk1, pk2, pk3, pk4, pk5, pk6])
  refine AY (i := 1) (oi := _) (v := ?_) rfl (by kernel_rfl) (by kernel_rfl) (by kernel_rfl) (by kernel_rfl) (fun _ _ _ h => h) (Or.inl ⟨by rfl, ?_⟩) hHeld ?_;rotate_left
  ·intro wq hSw;obtain ⟨hSw1, hSw2⟩ := hSw;go_simp
   (try with_reducible rfl)
  (try simp only [Act.put, pk1, pk2, pk3, pk4, pk5, pk6])
  refine AY (i := 2) (oi := _) (v := ?_) rfl (by kernel_rfl) (by kernel_rfl) (by kernel_rfl) (by kernel_rfl) (fun _ _ _ h => h) (Or.inl ⟨by rfl, ?_⟩) hHeld ?_;rotate_left
  ·intro wq hSw;obtain ⟨hSw1, hSw2⟩ := hSw;go_simp
   (try with_reducible rfl)
  (try simp only [Act.put, pk1, pk2, pk3, pk4, pk5, pk6])
  refine AY (i := 3) (oi := _) (v := ?_) rfl (by kernel_rfl) (by kernel_rfl) (by kernel_rfl) (by kernel_rfl) (fun _ _ _ h => h) (Or.inl ⟨by rfl, ?_⟩) hHeld ?_;rotate_left
  ·intro wq hSw;obtain ⟨hSw1, hSw2⟩ := hSw;go_simp
   (try with_reducible rfl)
  (try simp only [Act.put, pk1, pk2, pk3, pk4, pk5, pk6])
  refine AY (i := 4) (oi := _) (v := ?_) rfl (by kernel_rfl) (by kernel_rfl) (by kernel_rfl) (by kernel_rfl) (fun _ _ _ h => h) (Or.inl ⟨by rfl, ?_⟩) hHeld ?_;rotate_left
  ·intro wq hSw;obtain ⟨hSw1, hSw2⟩ := hSw;go_simp
   (try with_reducible rfl)
  (try simp only [Act.put, pk1, pk2, pk3, pk4, pk5, pk6])
  refine AY (i := 5) (oi := _) (v := _) rfl (by kernel_rfl) (by kernel_rfl) (by kernel_rfl) (by kernel_rfl) (fun _ _ _ h => h) (Dg rfl Tryz.underlying40 HS2.out (fun W h => h.2) (by rfl) _ rfl rfl) hHeld ?_
  (try simp only [Act.put, pk1, pk2, pk3, pk4, pk5, pk6])
  refine AP (rs := [6]) (by kernel_rfl) (by simp) ?_;refine ReadyT.cons (o := _) rfl (fun K hK => ?_) ReadyT.nil;go_simp;rw [if_neg (by have hx := HSX.out; rintro (h | h); exact (of_decide_eq_true h) hx; omega), IP X _ (by rw [HSX.out]; rfl)];go_simp;refine hK.out _ _ (.inr ⟨(HRM.out.blk.drew.alloc (.cells X 40)).cell 3, HK3.out.drew.alloc (.cells X 40)⟩) ?_;clear hK K
  (try simp only [Act.put, pk1, pk2, pk3, pk4, pk5, pk6])
  have hHeld1 : (w3.drew.alloc (.cells X 40)).cell? ⟨g, 3, none⟩ = some (.slice A0 r.waiting.length c0) ∧ Blk (w3.drew.alloc (.cells X 40)) w2.heap.size 40 X := ⟨(HRM.out.blk.drew.alloc (.cells X 40)).cell 3, HK3.out.drew.alloc (.cells X 40)⟩;refine AP (rs := [7]) (by kernel_rfl) (by simp) ?_;refine ReadyT.cons (o := _) rfl (fun K hK => ?_) ReadyT.nil;refine DD rowEv rfl _ _ rfl (w3.drew.alloc (.cells X 40)) (.slice A0 r.waiting.length c0) r.waiting.length xs X.toList (g + 1) ?_ (HOWN.out.drew.alloc _) w3.heap.size 1 1 ?_ (by rw [Array.length_toList, HSX.out]) (fun u hu => by have := HO2.out; rw [Array.all_eq_true_iff_forall_mem] at this; exact this u (by simpa using hu)) (fun j u hu => by rw [show w3.heap.size = w3.drew.heap.size from rfl, (Blk.new w3.drew 40 X).cell j, ← Array.getElem?_toList]; exact hu) (by rw [World.size_alloc]; show g + 1 ≤ w3.heap.size + 1; omega) (by omega) ?_
  ·kernel_rfl
  ·kernel_rfl
  intro v9 w9 ho9 hg9 hb9 hwh9;obtain ⟨A9, c9, rfl⟩ := Ax ho9;have HKG9 := hid ((HRM.out.blk.drew.alloc (.cells X 40)).grown hg9 (by intro e; have := (HLT.out g e.symm).1; omega));have HKB9 := hid ((HK3.out.drew.alloc (.cells X 40)).grown hg9 (by intro e; have := (HLT.out _ e.symm).2; omega));have hf9 := HKG9.out.frozen 3;have hc9 := HKG9.out.cell 3;rw [show (#[.string (bstr r.id), cE, cR, .slice A0 r.waiting.length c0, cH, cS, .int .i64 r.next, cC, cT] : Array Value)[3]? = some (.slice A0 r.waiting.length c0) from rfl] at hc9;have HCH := hid ((((chb (g := g) (row := (Value.slice A0 r.waiting.length c0).ownBlock) (((Below.refl w3.heap.size w3).drew).alloc (Nat.le_refl _) (.cells X 40))).grown hg9).set 3 (.slice A9 (r.waiting.length + 1) c9)))
  have HFR : Hid (Fresh w3.heap.size (Value.slice A0 r.waiting.length c0).ownBlock (Value.slice A9 (r.waiting.length + 1) c9).ownBlock) := hid (by
   rcases hwh9 with h | h
   ·exact .inl h
   ·exact .inr ⟨_, by rw [World.size_alloc]; exact Nat.le_succ _, h⟩)
  have HKG := hid (HKG9.out.set_ 3 (.slice A9 (r.waiting.length + 1) c9));rw [show (#[.string (bstr r.id), cE, cR, .slice A0 r.waiting.length c0, cH, cS, .int .i64 r.next, cC, cT] : Array Value).setIfInBounds 3 (.slice A9 (r.waiting.length + 1) c9) = #[.string (bstr r.id), cE, cR, .slice A9 (r.waiting.length + 1) c9, cH, cS, .int .i64 r.next, cC, cT] from rfl] at HKG;have HOW := hid (CQ (i := 3) (u := .slice A9 (r.waiting.length + 1) c9) ho9 (Nat.lt_succ_self g))
  have HFIN : Hid (RlA g w (Ar.retK r 4 ((Ar.By s.data.toList [119, 97, 105, 116]).map fun e => Ar.upW r e)) (.returned (.int .i64 4)) (w9.setCell ⟨g, 3, none⟩ (.slice A9 (r.waiting.length + 1) c9))) := hid (by
   rw [HE.out];refine ⟨⟨rfl, fun _ => ⟨_, _, _, _, _, _, _, HRM.out.waitStep HKG.out HCH.out HFR.out (fun ys hys => by rw [KP hys HOWN.out]; exact HOW.out) (Pu (i := 2) HV3.out hlt HR0.out.lt rfl HFR.out HCH.out)⟩⟩, ?_⟩
   exact (HB3.out.mono (Nat.le_of_lt hlt)).trans (HCH.out.low (by omega) (fun k e => by have := (HLT.out k e).1; omega)))
  refine hK.out _ _ (.inr ⟨hc9, HKB9.out⟩) ?_;clear hK K hHeld hHeld1 ho9 hg9 hb9 hwh9
  (try simp only [Act.put, pk1, pk2, pk3, pk4, pk5, pk6])
  have hHeld : w9.cell? ⟨g, 3, none⟩ = some (.slice A0 r.waiting.length c0) ∧ Blk w9 w2.heap.size 40 X := ⟨hc9, HKB9.out⟩;refine AP (rs := [8]) (by kernel_rfl) (by simp) ?_;refine ReadyT.cons (o := _) rfl (fun K hK => ?_) ReadyT.nil;go_simp;refine hK.out _ _ (.inr hHeld) ?_;clear hK K
  (try simp only [Act.put, pk1, pk2, pk3, pk4, pk5, pk6])
  refine AP (rs := [9]) (by kernel_rfl) (by simp) ?_;refine ReadyT.cons (o := _) rfl (fun K hK => ?_) ReadyT.nil;go_simp;refine hK.out _ _ (.inr hHeld) ?_;clear hK K
  (try simp only [Act.put, pk1, pk2, pk3, pk4, pk5, pk6])
  refine AP (rs := [10]) (by kernel_rfl) (by simp) ?_;refine ReadyT.cons (o := _) rfl (fun K hK => ?_) ReadyT.nil;go_simp;refine hK.out _ _ (.inl rfl) ?_;clear hK K
  (try simp only [Act.put, pk1, pk2, pk3, pk4, pk5, pk6])
  refine Fw (by kernel_rfl) ?_ _;refine NoPanic.normal ?_;go_wp2_with fail;go_ret;exact HFIN.out
 ·have HNO := hid he;have HS2 : Hid ((Tryz.prog.info? 40).map (·.size) = some X.size) := hid (by rw [Aj, hxs]);have HZ2 : Hid (zeroEv.size = X.size) := hid (by rw [hxs]; rfl);have HO2 := hid hx1;clear he hxs hx1;go_wp2_with ((with_reducible refine AF rfl 40 _ _ rfl w2.heap.size X ?_ ?_ 40 _ (Blk.new w2 40 _) HS2.out ?_ HO2.out ?_); rfl; rfl; exact HZ2.out; intro w3 hk3 hs3 hbl3; have HB3 := hid (HB2.out.trans ((((Below.refl w2.heap.size w2).alloc (Nat.le_refl _) (.cells zeroEv 40)).trans (hbl3 w2.heap.size (Nat.le_refl _))).mono HB2.out.size)); clear hk3 hs3 hbl3);go_ret;rw [HNO.out];exact ⟨⟨rfl, fun h => absurd rfl h⟩, HB3.out.mono (Nat.le_of_lt hlt)⟩
theorem Mp (s : ByteArray) (g : Nat) (r : Ar.Rm) (w : World) (hs : s.size ≤ 100000) (hRd : Ready w) (hx : RmX w g r) (hg3 : 3 ≤ g) (hn : r.num ≤ 1000000) : Calls Tryz.prog 77 #[.string s, .pointer (some ⟨g, 0, none⟩)] w (RlA g w (Ar.AG s.data.toList r)) := by
 by_cases h1 : (Lib.cut s.data.toList [32]).1 = [101, 118, 101, 110, 116]
 ·exact JU s g r w hs hRd hx hg3 hn h1
 by_cases h2 : (Lib.cut s.data.toList [32]).1 = [119, 97, 105, 116]
 ·exact KU s g r w hs hRd hx hg3 hn h2
 by_cases h3 : (Lib.cut s.data.toList [32]).1 = [114, 111, 119]
 ·exact L6 s g r w hs hRd hx hg3 hn h3
 by_cases h4 : (Lib.cut s.data.toList [32]).1 = [104, 101, 97, 100, 115]
 ·exact Ke s g r w hs hRd hx hg3 hn h4
 by_cases h5 : (Lib.cut s.data.toList [32]).1 = [101, 110, 116, 114, 121]
 ·exact JV s g r w hs hRd hx hg3 hn h5
 by_cases h6 : (Lib.cut s.data.toList [32]).1 = [114, 101, 99, 101, 105, 112, 116]
 ·exact I4 s g r w hs hRd hx hg3 hn h6
 by_cases h7 : (Lib.cut s.data.toList [32]).1 = [116, 121, 112, 105, 110, 103]
 ·exact I8 s g r w hs hRd hx hg3 hn h7
 exact Kj s g r w hs hRd hx hg3 hn h1 h2 h3 h4 h5 h6 h7
end Go.Proofs.YteadlcncnhbmjaaGreatDoor
namespace Ar
theorem LQ {s : Str} {r : Rm} {i form : Nat} (hi : i ≠ 0) (h : (AG s r).1 = 0 ∨ (AG s r).1 < form ∨ ((AG s r).1 = 5 ∧ form = 5)) (L : List Str) : rdAll i form r (s :: L) = .inr (i + 1) := by
 rw [rdAll];simp only [if_neg hi];rw [if_pos h]
theorem Mz {s : Str} {r : Rm} {i form : Nat} (hi : i ≠ 0) (h : ¬ ((AG s r).1 = 0 ∨ (AG s r).1 < form ∨ ((AG s r).1 = 5 ∧ form = 5))) (L : List Str) : rdAll i form r (s :: L) = rdAll (i + 1) (AG s r).1 (AG s r).2 L := by
 rw [rdAll];simp only [if_neg hi];rw [if_neg h]
theorem Re {r : Rm} {k : Nat} {x : Option Rm} {n : Nat} (h : k ≤ n) : (retK r k x).1 ≤ n := by
 unfold retK;split
 ·exact h
 ·exact Nat.zero_le _
theorem LZ (s : Str) (r : Rm) : (AG s r).1 ≤ 8 := by
 rw [Bh]
 repeat' split
 all_goals first | exact Re (by decide) | exact Nat.zero_le _
theorem DJ {r : Rm} {k : Nat} {x : Option Rm} {n : Nat} (h0 : r.num ≤ n) (h : ∀ y, x = some y → y.num ≤ n) : (retK r k x).2.num ≤ n := by
 unfold retK;split
 ·exact h _ rfl
 ·exact h0
theorem Mj (s : Str) (r : Rm) : (AG s r).2.num ≤ r.num + 1 := by
 rw [Bh];have h0 : r.num ≤ r.num + 1 := Nat.le_succ _;split
 ·exact DJ h0 (fun y h => by obtain ⟨e, _, rfl⟩ := Option.map_eq_some_iff.1 h; unfold Rm.num; simp only [List.length_append, List.length_cons, List.length_nil]; omega)
 ·split
  ·exact DJ h0 (fun y h => by obtain ⟨e, _, rfl⟩ := Option.map_eq_some_iff.1 h; unfold Rm.num; simp only [List.length_append, List.length_cons, List.length_nil]; omega)
  ·split
   ·exact DJ h0 (fun y h => by obtain ⟨x, _, rfl, _⟩ := F2 h; unfold Rm.num upR; simp only [List.length_append, List.length_cons, List.length_nil]; omega)
   ·split
    ·exact DJ h0 (fun y h => by obtain ⟨x, _, rfl, _⟩ := Ey h; exact h0)
    ·split
     ·exact DJ h0 (fun y h => by obtain ⟨x, _, rfl, _⟩ := Ex h; unfold Rm.num upS; simp only [List.length_append, List.length_cons, List.length_nil]; omega)
     ·split
      ·exact DJ h0 (fun y h => by obtain ⟨x, _, rfl, _⟩ := DS h; unfold Rm.num upC; simp only [List.length_append, List.length_cons, List.length_nil]; omega)
      ·split
       ·exact DJ h0 (fun y h => by obtain ⟨x, _, rfl, _⟩ := Ea h; unfold Rm.num upT; simp only [List.length_append, List.length_cons, List.length_nil]; omega)
       ·exact h0
end Ar
namespace Go.Proofs.YteadlcncnhbmjaaGreatDoor
open Go.RowKit Go.Lib
def RmV (w : World) (r : Ar.Rm) (cells : Array Value) : Prop := ∃ cE cR cW cH cS cC cT, cells = #[.string (bstr r.id), cE, cR, cW, cH, cS, .int .i64 r.next, cC, cT] ∧ RoomV w w.heap.size r cE cR cW cH cS cC cT
theorem RmV.below {w w' : World} {r : Ar.Rm} {cells : Array Value} (h : RmV w r cells) (hb : Below w.heap.size w w') : RmV w' r cells := by
 obtain ⟨_, _, _, _, _, _, _, e, h⟩ := h;exact ⟨_, _, _, _, _, _, _, e, (h.keep (Nat.le_refl _) hb).keep hb.size (Below.refl _ _)⟩
theorem RmV.size {w : World} {r : Ar.Rm} {cells : Array Value} (h : RmV w r cells) : cells.size = 9 := by obtain ⟨_, _, _, _, _, _, _, rfl, _⟩ := h; rfl
theorem RmV.one {w : World} {r : Ar.Rm} {cells : Array Value} (h : RmV w r cells) : cells.all (·.oneCell') = true := by
 obtain ⟨_, _, _, _, _, _, _, rfl, h⟩ := h;obtain ⟨A1, c1, rfl, _⟩ := h.ev;obtain ⟨A2, c2, rfl, _⟩ := h.row;obtain ⟨A3, c3, rfl, _⟩ := h.wait;obtain ⟨A4, c4, rfl, _⟩ := h.heads;obtain ⟨A5, c5, rfl, _⟩ := h.state;obtain ⟨A6, c6, rfl, _⟩ := h.rcp;obtain ⟨A7, c7, rfl, _⟩ := h.typ;simp [Value.oneCell']
def RdR (x : Ar.Rm ⊕ Nat) (e : Ending) (w' : World) : Prop := (∃ y cells, x = .inl y ∧ e = .returned (.tuple #[.agg cells, .int .i64 0, .int .i64 0]) ∧ RmV w' y cells) ∨ (∃ n : Nat, x = .inr n ∧ e = .returned (.tuple #[.agg zRm, .int .i64 (n : Int), .int .i64 10]))
theorem RmO.moved {w w' : World} {g b : Nat} {r : Ar.Rm} {cE cR cW cH cS cC cT : Value} (h : RmO w g r cE cR cW cH cS cC cT) (hb : b < g) (hs : w'.heap.size = w.heap.size) (ho : ∀ k, k ≠ b → w'.heap[k]? = w.heap[k]?) : RmO w' g r cE cR cW cH cS cC cT := by
 have own : ∀ {e sz v n xs}, w.ownsRow (g + 1) e sz v n xs → w'.ownsRow (g + 1) e sz v n xs := by
  intro e sz v n xs h;obtain ⟨h1, h2⟩ := h;refine ⟨h1, ?_⟩;rcases h2 with h2 | ⟨k, cap, cur, rfl, hk, hh, hn, hcap, hsz, ht⟩
  ·exact .inl h2
  ·exact .inr ⟨k, cap, cur, rfl, hk, (ho k (by omega)).trans hh, hn, hcap, hsz, ht⟩
 have ev : ∀ {O v L}, EvO w g O v L → EvO w' g O v L := by
  intro O v L h;obtain ⟨xs, h1, h2⟩ := h;refine ⟨xs, own h1, fun i e hi => ?_⟩;obtain ⟨cs, a, b', c⟩ := h2 i e hi;exact ⟨cs, a, b', c.keep fun k hk _ => ⟨hk, ho k (by have := hk.1; omega)⟩⟩
 exact ⟨(ho g (by omega)).trans h.blk, h.apart, ev h.ev, own h.row, ev h.wait, h.heads.keep (by decide) (fun k hk _ => ⟨hk, ho k (by have := hk.1; omega)⟩), own h.state, own h.rcp, own h.typ⟩
theorem Ah : (Tryz.prog.info? 55).map (·.size) = some 9 := by kernel_rfl
theorem CF : (zRm : Array Value).all (·.oneCell') = true := by simp [Value.oneCell']
theorem GW (k : Nat) (h : k ≤ 1000000) : IntKind.i64.wrap ((k : Int) + 1) = ((k + 1 : Nat) : Int) := by rw [IntWalk.i64_in _ (by omega)]; rfl
theorem Nm (m : Nat) (h : m ≤ 1000000) : IntKind.i64.wrap (((m + 1 : Nat) : Int) - 1) = (m : Int) := by rw [IntWalk.i64_in _ (by omega)]; omega
theorem Kt (s : ByteArray) (w : World) (hs : s.size ≤ 500000) (hle : ∀ l ∈ Ar.lines s.data.toList, l.length ≤ 100000) (hR : Ready w) : Calls Tryz.prog 28 #[.string s] w fun e w' => RdR (Ar.read s.data.toList) e w' ∧ Below w.heap.size w w' := by
 have h3 : 3 ≤ w.heap.size := by
  obtain ⟨t, p, h⟩ := hR.2.2;exact AV h
 have HRY := hid hR;have hln := fun W hW => De s W (by omega) hW
 have hll := Ar.DC s.data.toList;have hsz := AI s
 have hread : Ar.read s.data.toList = match Ar.rdAll 0 0 Ar.Rm.zero (Ar.lines s.data.toList).dropLast with
  | .inr n => .inr n
  | .inl r => if (Ar.lines s.data.toList).length = 1 ∨ (Ar.lines s.data.toList).getLast? ≠ some [] then .inr (Ar.lines s.data.toList).length else .inl r := rfl
 obtain ⟨L, l, hL⟩ : ∃ L l, Ar.lines s.data.toList = L ++ [l] := ⟨_, _, (List.dropLast_concat_getLast (Ar.Es _)).symm⟩;rw [hL] at hln hll hle;rw [hL, List.dropLast_concat, List.getLast?_concat, List.length_append, List.length_singleton] at hread;rw [List.length_append, List.length_singleton] at hln hll;have HLE := hid hle;have HREAD := hid hread;have HLN := hid hln;have hm6 : L.length ≤ 1000000 := by omega
 have hs5 : ¬ (500000 : Int) < (s.size : Int) := by omega
 clear hR hln hread hL hle hll hsz;generalize hX : Ar.read s.data.toList = X at *;clear hX;have HR1 := hid (HRY.out.below ((Below.refl _ _).alloc (Nat.le_refl _) (.cells zRm 55)));have hs1 : (w.alloc (.cells zRm 55)).heap.size = w.heap.size + 1 := World.size_alloc _ _;have HB1 := hid ((Below.refl w.heap.size w).alloc (Nat.le_refl _) (.cells zRm 55));have HKT := hid (Blk.new w 55 zRm);have HQ1 := hid (HLN.out _ HR1.out);rw [hs1] at HQ1;generalize hw1 : w.alloc (.cells zRm 55) = w1 at *;have HB2 := hid (HB1.out.alloc HB1.out.size (.cells (strL (L ++ [l])).toArray 9));have HR2 := hid (HR1.out.below ((Below.refl _ _).alloc (Nat.le_refl _) (.cells (strL (L ++ [l])).toArray 9)));have hs2 : (w1.alloc (.cells (strL (L ++ [l])).toArray 9)).heap.size = w.heap.size + 2 := by rw [World.size_alloc, hs1]
 have HKT2 := hid (HKT.out.alloc (.cells (strL (L ++ [l])).toArray 9));have HKL := hid (Rd.litS w1 (L ++ [l]));rw [hs1] at HKL;generalize hw2 : w1.alloc (.cells (strL (L ++ [l])).toArray 9) = w2 at *;have HB3 := hid (HB2.out.alloc HB2.out.size (.cells zRm 55));have HR3 := hid (HR2.out.below ((Below.refl _ _).alloc (Nat.le_refl _) (.cells zRm 55)));have hs3 : (w2.alloc (.cells zRm 55)).heap.size = w.heap.size + 3 := by rw [World.size_alloc, hs2]
 have HKT3 := hid (HKT2.out.alloc (.cells zRm 55));have HKL3 := hid (HKL.out.below ((Below.refl _ _).alloc (Nat.le_refl _) (.cells zRm 55)));have HKG3 := hid (Blk.new w2 55 zRm);rw [hs2] at HKG3;have hsl : ∀ W : World, (Instr.slice 30 (.slice (some ⟨w.heap.size + 1, 0, none⟩) (L.length + 1) (L.length + 1)) none (some (.int .i64 (L.length : Int))) (some (.int .i64 (L.length : Int)))).run Tryz.prog W = .ok (.slice (some ⟨w.heap.size + 1, 0, none⟩) L.length L.length) W := fun W => I0 W (w.heap.size + 1) 0 (L.length + 1) (L.length + 1) L.length (by omega) (by omega)
 have HST : Hid (∀ wr, Below (w.heap.size + 2) (w2.alloc (.cells zRm 55)) wr → Below w.heap.size w wr ∧ Ready wr ∧ Blk wr w.heap.size 55 zRm ∧ Rd wr (some ⟨w.heap.size + 1, 0, none⟩) (L ++ [l]).length (strL (L ++ [l]))) := hid (fun wr hb => ⟨HB3.out.trans (hb.mono (by omega)), HR3.out.grown ⟨hb.os, hb.tape, hb.output, hb.size, fun k hk hne => by
   rcases Nat.lt_or_ge k (w.heap.size + 2) with h | h
   ·exact hb.block k h
   ·exfalso; exact hne (by rw [hs3] at hk; congr 1; omega)⟩ (fun g e => by injection e with e; omega : ∀ g, some (w.heap.size + 2) = some g → 3 ≤ g), HKT3.out.below hb (by omega), HKL3.out.low hb (fun a e => by injection e with e; rw [← e]; show w.heap.size + 1 < w.heap.size + 2; omega)⟩)
 generalize hw3 : w2.alloc (.cells zRm 55) = w3 at *;have HX3 : Hid (RmX w3 (w.heap.size + 2) Ar.Rm.zero) := hid ⟨_, _, _, _, _, _, _, RmO.zero HKG3.out⟩;have hwp := Nm L.length hm6;go_enter Tryz.func28, Tryz.ntmps28;go_wp2_with fail;refine HQ1.out.mono ?_;rintro e w2' ⟨rfl, rfl⟩;go_wp2_with fail
 go_loopw [8, 28] (fun fx ix wr => ∃ (k f : Nat) (r : Ar.Rm), k ≤ L.length ∧ ix = .int .i64 k ∧ fx = .int .i64 f ∧ Below (w.heap.size + 2) w3 wr ∧ RmX wr (w.heap.size + 2) r ∧ r.num ≤ k ∧ f ≤ 8 ∧ (k = 0 → r = Ar.Rm.zero ∧ f = 0) ∧ Hid (Ar.rdAll 0 0 Ar.Rm.zero L = Ar.rdAll k f r (L.drop k))) (fun _ ix _ => L.length - (RowKit.intOf ix).toNat)
 case atStart => exact ⟨0, 0, _, Nat.zero_le _, rfl, rfl, Below.refl _ _, HX3.out, Nat.le_refl _, by omega, fun _ => ⟨rfl, rfl⟩, hid rfl⟩
 case round =>
  obtain ⟨k, f, r, hk, rfl, rfl, hb, hx, hnum, hf8, hzero, hall⟩ := hrel;have HB := hid hb;have hbs := hb.size;have HX := hid hx;have HALL := hid hall.out;obtain ⟨hBw, hRw, hKT, hKL⟩ := HST.out wr hb;have HBW := hid hBw;have HRW := hid hRw;have HKTW := hid hKT;have HKLW := hid hKL;clear hb hx hall hBw hRw hKT hKL;by_cases hlt : k < L.length
  ·obtain ⟨b1, o1, x1, e1, hxk, hc⟩ := HKLW.out.str_at (k := k) (by rw [List.length_append, List.length_singleton]; omega);injection e1 with e1;injection e1 with e1 e2 e3;subst e1 e2;rw [Nat.zero_add] at hc;have hxl : x1.length ≤ 100000 := HLE.out x1 (List.mem_of_getElem? hxk);rw [List.getElem?_append_left hlt] at hxk;have HDR : Hid (L.drop k = x1 :: L.drop (k + 1)) := hid (by obtain ⟨h1, h2⟩ := List.getElem?_eq_some_iff.1 hxk; rw [← h2]; exact List.drop_eq_getElem_cons h1);clear hxk;have hsx : (bstr x1).size ≤ 100000 := by rw [Ab]; exact hxl
   by_cases hk0 : k = 0
   ·obtain ⟨rfl, rfl⟩ := hzero hk0;subst hk0;have HC := hid (Oc (bstr x1) (w.heap.size + 2) Ar.Rm.zero wr hsx HRW.out HX.out (by omega) (Nat.zero_le _) (by show Ar.inInt 0; unfold Ar.inInt; omega));rw [show (bstr x1).data.toList = x1 from rfl] at HC;have HT : Hid (∀ W, Calls Tryz.prog 75 #[.bool true] W fun e w' => e = .returned (.int .i64 1) ∧ W = w') := hid (fun W => CX true W);have HF : Hid (∀ W, Calls Tryz.prog 75 #[.bool false] W fun e w' => e = .returned (.int .i64 0) ∧ W = w') := hid (fun W => CX false W);generalize hS1 : bstr x1 = S1 at *;go_wp2_with fail;refine HC.out.mono ?_;rintro e w4 ⟨hans, hb4⟩;have HB4 := hid (HB.out.trans hb4);clear hb4;rcases hans with ⟨y, hy, rfl, hx4⟩ | ⟨hy, rfl⟩
    ·have HX4 := hid hx4;have HA4 : Hid (Ar.rdAll 0 0 Ar.Rm.zero L = Ar.rdAll 1 1 y (L.drop 1)) := hid (by rw [HALL.out, HDR.out]; exact Ar.DW hy _);have HN4 : Hid (y.num ≤ 0) := hid (by obtain ⟨_, ⟨i, n, rfl⟩, _⟩ := Ar.Fl hy; exact Nat.le_refl _);clear hy hx4;go_wp2_with fail;refine (HT.out _).mono ?_;rintro e w5 ⟨rfl, rfl⟩;go_wp2_with fail
     go_roundw
     case rel => exact ⟨1, 1, y, by omega, by go_num, rfl, HB4.out, HX4.out, by have := HN4.out; omega, by omega, fun h => by omega, HA4⟩
     case measure => simp [RowKit.intOf]; omega
    ·have HX9 : Hid (X = .inr 1) := hid (by rw [HREAD.out, HALL.out, HDR.out, Ar.F6 hy]);have HKT4 := hid ((HST.out w4 HB4.out).2.2.1);have HBW4 := hid ((HST.out w4 HB4.out).1);clear hy;go_wp2_with fail;refine (HF.out _).mono ?_;rintro e w5 ⟨rfl, rfl⟩;go_wp2_with ((with_reducible refine Aa rfl 55 _ _ rfl w.heap.size zRm ?_ ?_ 55 zRm HKT4.out ?_ rfl CF ?_); rfl; rfl; exact Ah; intro wz hkz hsz hblz hotz);refine bodyPost_ret (Ao rfl _ _ w.heap.size _ zRm _ rfl hkz Tryz.underlying55 rfl Ah) rfl ?_;exact ⟨.inr ⟨_, HX9.out, rfl⟩, HBW4.out.trans (hblz _ (Nat.le_refl _))⟩
   ·have HC := hid (Mp (bstr x1) (w.heap.size + 2) r wr hsx HRW.out HX.out (by omega) (by omega));rw [show (bstr x1).data.toList = x1 from rfl] at HC;have hki : ((k : Int) == 0) = false := by rw [beq_eq_false_iff_ne]; omega
    have HNX := hid (Ar.Mj x1 r);have HBAD := hid (Ar.LQ (s := x1) (r := r) (form := f) hk0);have HNXT := hid (Ar.Mz (s := x1) (r := r) (form := f) hk0);have hx8 := Ar.LZ x1 r;have hwk := GW k (by omega);generalize hS1 : bstr x1 = S1 at *;go_wp2_with fail;refine HC.out.mono ?_;rintro e w4 ⟨⟨rfl, hx4⟩, hb4⟩;have HX4 := hid hx4;have HB4 := hid (HB.out.trans hb4);have HKT4 := hid ((HST.out w4 HB4.out).2.2.1);have HBW4 := hid ((HST.out w4 HB4.out).1);clear hb4 hx4 hzero;generalize hq : Ar.AG x1 r = q at *;obtain ⟨q, y⟩ := q;simp only at HX4 HNX HBAD HNXT hx8 ⊢;clear hq;by_cases hq0 : q = 0
    ·have HX9 : Hid (X = .inr (k + 1)) := hid (by rw [HREAD.out, HALL.out, HDR.out, HBAD.out (.inl hq0)]);subst hq0;go_wp2_with ((with_reducible refine Aa rfl 55 _ _ rfl w.heap.size zRm ?_ ?_ 55 zRm HKT4.out ?_ rfl CF ?_); rfl; rfl; exact Ah; intro wz hkz hsz hblz hotz);refine bodyPost_ret (Ao rfl _ _ w.heap.size _ zRm _ rfl hkz Tryz.underlying55 rfl Ah) rfl ?_;exact ⟨.inr ⟨_, HX9.out, rfl⟩, HBW4.out.trans (hblz _ (Nat.le_refl _))⟩
    ·have d0 : ((q : Int) == 0) = false := by rw [beq_eq_false_iff_ne]; omega
     by_cases hqf : q < f
     ·have HX9 : Hid (X = .inr (k + 1)) := hid (by rw [HREAD.out, HALL.out, HDR.out, HBAD.out (.inr (.inl hqf))]);have d1 : decide ((q : Int) < (f : Int)) = true := decide_eq_true (by omega);clear hq0;go_wp2_with ((with_reducible refine Aa rfl 55 _ _ rfl w.heap.size zRm ?_ ?_ 55 zRm HKT4.out ?_ rfl CF ?_); rfl; rfl; exact Ah; intro wz hkz hsz hblz hotz);refine bodyPost_ret (Ao rfl _ _ w.heap.size _ zRm _ rfl hkz Tryz.underlying55 rfl Ah) rfl ?_;exact ⟨.inr ⟨_, HX9.out, rfl⟩, HBW4.out.trans (hblz _ (Nat.le_refl _))⟩
     ·have d1 : decide ((q : Int) < (f : Int)) = false := decide_eq_false (by omega);by_cases hq5 : q = 5
      ·subst hq5;by_cases hf5 : f = 5
       ·have HX9 : Hid (X = .inr (k + 1)) := hid (by rw [HREAD.out, HALL.out, HDR.out, HBAD.out (.inr (.inr ⟨rfl, hf5⟩))]);subst hf5;go_wp2_with ((with_reducible refine Aa rfl 55 _ _ rfl w.heap.size zRm ?_ ?_ 55 zRm HKT4.out ?_ rfl CF ?_); rfl; rfl; exact Ah; intro wz hkz hsz hblz hotz);refine bodyPost_ret (Ao rfl _ _ w.heap.size _ zRm _ rfl hkz Tryz.underlying55 rfl Ah) rfl ?_;exact ⟨.inr ⟨_, HX9.out, rfl⟩, HBW4.out.trans (hblz _ (Nat.le_refl _))⟩
       ·have d2 : ((f : Int) == 5) = false := by rw [beq_eq_false_iff_ne]; omega
        have HA4 : Hid (Ar.rdAll 0 0 Ar.Rm.zero L = Ar.rdAll (k + 1) 5 y (L.drop (k + 1))) := hid (by rw [HALL.out, HDR.out]; exact HNXT.out (by omega) _);go_wp2_with fail
        go_roundw
        case rel => exact ⟨k + 1, 5, y, by omega, by go_num, rfl, HB4.out, HX4.out (by omega), by have := HNX.out; omega, by omega, fun h => by omega, HA4⟩
        case measure => simp [RowKit.intOf]; omega
      ·have d2 : ((q : Int) == 5) = false := by rw [beq_eq_false_iff_ne]; omega
       have HA4 : Hid (Ar.rdAll 0 0 Ar.Rm.zero L = Ar.rdAll (k + 1) q y (L.drop (k + 1))) := hid (by rw [HALL.out, HDR.out]; exact HNXT.out (by omega) _);go_wp2_with fail
       go_roundw
       case rel => exact ⟨k + 1, q, y, by omega, by go_num, rfl, HB4.out, HX4.out hq0, by have := HNX.out; omega, by omega, fun h => by omega, HA4⟩
       case measure => simp [RowKit.intOf]; omega
  ·obtain rfl : k = L.length := by omega
   have HEND : Hid (X = if L.length + 1 = 1 ∨ some l ≠ some [] then .inr (L.length + 1) else .inl r) := hid (by rw [HREAD.out, HALL.out, List.drop_length]; rfl);have hwk := GW L.length hm6;clear hlt hzero;by_cases hm0 : L.length = 0
   ·have HX9 : Hid (X = .inr (L.length + 1)) := hid (by rw [HEND.out, if_pos (.inl (by omega))]);have d0 : ((L.length : Int) == 0) = true := by rw [hm0]; rfl
    clear hm0;go_wp2_with ((with_reducible refine Aa rfl 55 _ _ rfl w.heap.size zRm ?_ ?_ 55 zRm HKTW.out ?_ rfl CF ?_); rfl; rfl; exact Ah; intro wz hkz hsz hblz hotz);refine bodyPost_ret (Ao rfl _ _ w.heap.size _ zRm _ rfl hkz Tryz.underlying55 rfl Ah) rfl ?_;exact ⟨.inr ⟨_, HX9.out, rfl⟩, HBW.out.trans (hblz _ (Nat.le_refl _))⟩
   ·have d0 : ((L.length : Int) == 0) = false := by rw [beq_eq_false_iff_ne]; omega
    obtain ⟨b1, o1, x1, e1, hxk, hc⟩ := HKLW.out.str_at (k := L.length) (by rw [List.length_append, List.length_singleton]; omega);injection e1 with e1;injection e1 with e1 e2 e3;subst e1 e2;rw [Nat.zero_add] at hc;rw [List.getElem?_append_right (Nat.le_refl _), Nat.sub_self] at hxk;obtain rfl : l = x1 := Option.some.inj hxk;clear hxk;by_cases hl : l = []
    ·have hem := emp_t hl;have HX9 : Hid (X = .inl r) := hid (by rw [HEND.out, if_neg (by rintro (h | h); omega; exact h (by rw [hl]))]);obtain ⟨cE, cR, cW, cH, cS, cC, cT, hrm⟩ := HX.out;have HRM := hid hrm;have HO : Hid ((#[.string (bstr r.id), cE, cR, cW, cH, cS, .int .i64 r.next, cC, cT] : Array Value).all (·.oneCell') = true) := hid (RmV.one ⟨_, _, _, _, _, _, _, rfl, hrm.room⟩);clear hl hrm;generalize hSL : bstr l = SL at *;generalize hRI : bstr r.id = RI at *
     go_wp2_with (first
      | (refine wpList_load_row rfl 55 _ rfl (w.heap.size + 2) rfl 55 #[.string RI, cE, cR, cW, cH, cS, .int .i64 r.next, cC, cT] (0, 0) _ (by rw [← hRI]; exact HRM.out.blk) Tryz.underlying55 rfl Ah ?_)
      | ((with_reducible refine Aa rfl 55 _ _ rfl w.heap.size #[.string RI, cE, cR, cW, cH, cS, .int .i64 r.next, cC, cT] ?_ ?_ 55 zRm HKTW.out ?_ rfl HO.out ?_); rfl; rfl; exact Ah; intro wz hkz hsz hblz hotz))
     refine bodyPost_ret (Ao rfl _ _ w.heap.size _ #[.string RI, cE, cR, cW, cH, cS, .int .i64 r.next, cC, cT] _ rfl hkz Tryz.underlying55 rfl Ah) rfl ?_;refine ⟨.inl ⟨r, _, HX9.out, rfl, ?_⟩, HBW.out.trans (hblz _ (Nat.le_refl _))⟩;rw [← hRI];exact ⟨_, _, _, _, _, _, _, rfl, (HRM.out.moved (Nat.lt_succ_of_lt (Nat.lt_succ_self _)) hsz hotz).room⟩
    ·have hem := emp_f hl;have HX9 : Hid (X = .inr (L.length + 1)) := hid (by rw [HEND.out, if_pos (.inr (fun h => hl (by injection h)))]);clear hl;generalize hSL : bstr l = SL at *;go_wp2_with ((with_reducible refine Aa rfl 55 _ _ rfl w.heap.size zRm ?_ ?_ 55 zRm HKTW.out ?_ rfl CF ?_); rfl; rfl; exact Ah; intro wz hkz hsz hblz hotz);refine bodyPost_ret (Ao rfl _ _ w.heap.size _ zRm _ rfl hkz Tryz.underlying55 rfl Ah) rfl ?_;exact ⟨.inr ⟨_, HX9.out, rfl⟩, HBW.out.trans (hblz _ (Nat.le_refl _))⟩
end Go.Proofs.YteadlcncnhbmjaaGreatDoor
namespace Ar
theorem Mx {s : Str} {f i : Nat} {O : List Str} (h : lines s = O ++ lines (s.drop f)) (hf : f ≤ i) (hn : (10 : UInt8) ∉ (s.drop f).take (i - f)) (hi : s[i]? = some 10) : lines s = (O ++ [(s.drop f).take (i - f)]) ++ lines (s.drop (i + 1)) := by
 have e : s.drop f = (s.drop f).take (i - f) ++ 10 :: s.drop (i + 1) := by
  have h1 := (List.take_append_drop (i - f) (s.drop f)).symm;rw [List.drop_drop, show f + (i - f) = i from by omega] at h1;obtain ⟨h2, h3⟩ := List.getElem?_eq_some_iff.1 hi;rw [List.drop_eq_getElem_cons h2, h3] at h1;exact h1
 rw [h]
 conv => lhs; rw [e]
 rw [EL _ _ hn];simp
theorem NP {s : Str} {f i : Nat} {c : UInt8} (hf : f ≤ i) (hn : (10 : UInt8) ∉ (s.drop f).take (i - f)) (hi : s[i]? = some c) (hc : c ≠ 10) : (10 : UInt8) ∉ (s.drop f).take (i + 1 - f) := by
 have h1 : (s.drop f)[i - f]? = some c := by rw [List.getElem?_drop, show f + (i - f) = i from by omega]; exact hi
 rw [show i + 1 - f = (i - f) + 1 from by omega, Go.Proofs.YteadlcncnhbmjaaGreatDoor.BF h1];intro hm;rcases List.mem_append.1 hm with hm | hm
 ·exact hn hm
 ·exact hc (List.mem_singleton.1 hm).symm
end Ar
namespace Go.Proofs.YteadlcncnhbmjaaGreatDoor
open Go.RowKit Go.Lib
theorem Lp (s : ByteArray) (f i : Nat) : s.extract f i = bstr ((s.data.toList.drop f).take (i - f)) := Bg (by rw [EQ]; rfl)
theorem H7 (S : ByteArray) (w : World) (hs : S.size ≤ 1000000) :
  Calls Tryz.prog 35 #[.string S] w fun e w' => (∃ v, e = .returned v ∧ OwnS w.heap.size w' v (Ar.lines S.data.toList)) ∧ Below w.heap.size w w' := by
 have HSZ : Hid (S.data.toList.length = S.size) := hid (AI S);have HEX := hid (Lp S);have HB1 := hid ((Below.refl w.heap.size w).alloc (Nat.le_refl _) (.cells #[] 9));have HO1 : Hid (OwnS w.heap.size (w.alloc (.cells #[] 9)) (.slice (some ⟨w.heap.size, 0, none⟩) 0 0) []) := hid (World.ownsRow_lit (base := w.heap.size) (e := 9) (size := 1) w #[] 0 (Nat.le_refl _) (by decide) rfl);generalize hw1 : w.alloc (.cells #[] 9) = w1 at *;go_enter Tryz.func35, Tryz.ntmps35;go_wp2_with fail
 go_loopw [3, 4, 5] (fun ox fx ix wr => ∃ (i f : Nat) (O : List (List UInt8)), i ≤ S.size ∧ f ≤ i ∧ ix = .int .i64 i ∧ fx = .int .i64 f ∧ O.length ≤ i ∧ OwnS w.heap.size wr ox O ∧ Ar.lines S.data.toList = O ++ Ar.lines (S.data.toList.drop f) ∧ (10 : UInt8) ∉ (S.data.toList.drop f).take (i - f) ∧ Below w.heap.size w wr) (fun _ _ ix _ => S.size - (RowKit.intOf ix).toNat)
 case atStart => exact ⟨0, 0, [], Nat.zero_le _, Nat.le_refl _, rfl, rfl, Nat.le_refl _, HO1.out, rfl, by simp, HB1.out⟩
 case round =>
  obtain ⟨i, f, O, hi, hf, rfl, rfl, hol, ho, heq, hno, hb⟩ := hrel;have HO := hid ho;have HEQ := hid heq;have HNO := hid hno;have HB := hid hb;have hbs := hb.size;obtain ⟨AO, cO, rfl⟩ := Ax ho;clear ho heq hno hb;by_cases hlt : i < S.size
  ·have hat := CS S i hlt;have HAT := hid hat;by_cases hc : S[i]'hlt = 10
   ·have hy : (((S[i]'hlt).toNat : Int) == 10) = true := by rw [hc]; rfl
    have hex := HEX.out f i;obtain ⟨P, hP⟩ : ∃ P, (S.data.toList.drop f).take (i - f) = P := ⟨_, rfl⟩;rw [hP] at hex;have HN : Hid (Ar.lines S.data.toList = (O ++ [P]) ++ Ar.lines (S.data.toList.drop (i + 1))) := hid (by rw [← hP]; exact Ar.Mx HEQ.out hf HNO.out (by rw [← hc]; exact HAT.out));have hfi : (f : Int) ≤ (i : Int) := by omega
    clear hat hc hP;go_wp2_with (at_builtin; refine Bt CD rfl _ _ rfl wr (strL [P]) 1 rfl (Bx [P]) (.slice AO O.length cO) O.length (strL O) w.heap.size rfl HO.out rfl hbs (by omega) ?_; intro v4 w4 ho4 hg4 hb4)
    go_roundw
    case rel =>
     refine ⟨i + 1, i + 1, O ++ [P], hlt, Nat.le_refl _, by go_num, by go_num, by rw [List.length_append, List.length_singleton]; omega, ?_, HN.out, by rw [Nat.sub_self]; simp, hb4 w HB.out⟩;unfold OwnS;rw [List.length_append, AJ];exact ho4
    case measure => simp [RowKit.intOf]; omega
   ·have hcn : (S[i]'hlt).toNat ≠ 10 := fun h => hc (Ar.Cv (by rw [h]; rfl))
    have hy : (((S[i]'hlt).toNat : Int) == 10) = false := by rw [beq_eq_false_iff_ne]; omega
    have HN : Hid ((10 : UInt8) ∉ (S.data.toList.drop f).take (i + 1 - f)) := hid (Ar.NP hf HNO.out HAT.out hc);clear hat hc hcn;go_wp2_with fail
    go_roundw
    case rel => exact ⟨i + 1, f, O, hlt, by omega, by go_num, rfl, by omega, HO.out, HEQ.out, HN.out, HB.out⟩
    case measure => simp [RowKit.intOf]; omega
  ·obtain rfl : i = S.size := by omega
   have hex := BA S f;obtain ⟨P, hP⟩ : ∃ P, S.data.toList.drop f = P := ⟨_, rfl⟩;rw [hP] at hex
   have HN : Hid (Ar.lines S.data.toList = O ++ [P]) := hid (by
    have h1 := HEQ.out;have h2 := HNO.out;rw [hP] at h1 h2;rw [List.take_of_length_le (by rw [← hP, List.length_drop]; have := HSZ.out; omega)] at h2
    rw [h1, Ar.Ec _ h2])
   clear hP;go_wp2_with (at_builtin; refine Bt CD rfl _ _ rfl wr (strL [P]) 1 rfl (Bx [P]) (.slice AO O.length cO) O.length (strL O) w.heap.size rfl HO.out rfl hbs (by omega) ?_; intro v4 w4 ho4 hg4 hb4);go_ret;exact ⟨⟨v4, rfl, by rw [HN.out]; unfold OwnS; rw [List.length_append, AJ]; exact ho4⟩, hb4 w HB.out⟩
theorem Qd (s p : List UInt8) (h : p.length ≤ s.length) : (s.take p.length == p) = Lib.hasPrefix s p := by
 unfold Lib.hasPrefix;by_cases hp : p <+: s
 ·obtain ⟨t, rfl⟩ := hp;rw [List.take_left, beq_self_eq_true];exact (List.isPrefixOf_iff_prefix.2 (List.prefix_append p t)).symm
 ·have h1 : ¬ (p.isPrefixOf s = true) := fun e => hp (List.isPrefixOf_iff_prefix.1 e)
  have h2 : ¬ (s.take p.length = p) := fun e => hp (e ▸ List.take_prefix _ _)
  rw [beq_eq_false_iff_ne.2 h2]
  cases hh : p.isPrefixOf s with
  | true => exact absurd hh h1
  | false => rfl
theorem G9 (s p : List UInt8) (w : World) (hs : s.length ≤ 1000000) (hp : p.length ≤ 1000000) :
  Calls Tryz.prog 99 #[.string (bstr s), .string (bstr p)] w fun e w' => e = .returned (.tuple #[.string (bstr (if Lib.hasPrefix s p then s.drop p.length else [])), .bool (Lib.hasPrefix s p)]) ∧ w = w' := by
 have hsz : (bstr s).size = s.length := Ab s;have hpz : (bstr p).size = p.length := Ab p;by_cases hlt : s.length < p.length
 ·have h0 : Lib.hasPrefix s p = false := by
   cases hh : Lib.hasPrefix s p with
   | false => rfl
   | true =>
    have := F1 hh;omega
  have hb : (bstr []) = (⟨#[]⟩ : ByteArray) := rfl;rw [h0];have hlt' : (bstr s).size < (bstr p).size := by omega
  generalize bstr s = S at *;generalize bstr p = Q at *;go_enter Tryz.func99, Tryz.ntmps99;go_wp2_with fail
  go_ret2
  exact ⟨rfl, rfl⟩
 ·have hle : (bstr p).size ≤ (bstr s).size := by omega
  have h1 := C7 (bstr s) (bstr p).size hle;have h2 := BA (bstr s) (bstr p).size;rw [show (bstr s).data.toList = s from rfl] at h1 h2;have hcm : ((bstr (s.take (bstr p).size)).toList == (bstr p).toList) = Lib.hasPrefix s p := by
   rw [Lib.toList_data, Lib.toList_data, ← Qd s p (by omega), hpz];rfl
  have hdr : (if Lib.hasPrefix s p = true then s.drop p.length else []) = if Lib.hasPrefix s p = true then s.drop (bstr p).size else [] := by rw [hpz]
  rw [hdr];clear hdr hsz
  cases hb : Lib.hasPrefix s p with
  | true =>
   rw [hb] at hcm;have hcn : (!((bstr (s.take (bstr p).size)).toList == (bstr p).toList)) = false := by rw [hcm]; rfl
   have HR : Hid ((if true = true then s.drop (bstr p).size else []) = s.drop (bstr p).size) := hid rfl;rw [HR.out];generalize s.drop (bstr p).size = D at *;generalize bstr (s.take (bstr p).size) = T at *;generalize bstr D = BD at *;generalize bstr s = S at *;clear hpz;generalize bstr p = Q at *;go_enter Tryz.func99, Tryz.ntmps99;go_wp2_with fail
   go_ret2
   exact ⟨rfl, rfl⟩
  | false =>
   rw [hb] at hcm;have hcn : (!((bstr (s.take (bstr p).size)).toList == (bstr p).toList)) = true := by rw [hcm]; rfl
   have HR : Hid ((if false = true then s.drop (bstr p).size else []) = []) := hid rfl;rw [HR.out];generalize bstr (s.take (bstr p).size) = T at *;generalize bstr (s.drop (bstr p).size) = BD at *;generalize bstr s = S at *;clear hpz;generalize bstr p = Q at *;go_enter Tryz.func99, Tryz.ntmps99;go_wp2_with fail
   go_ret2
   exact ⟨rfl, rfl⟩
end Go.Proofs.YteadlcncnhbmjaaGreatDoor
