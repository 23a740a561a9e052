/- The texts Rg5, Lg of this proof, one behind the other. -/
import Derived.Test.YteadlcncnhbmjaaGreatDoorMsbh
import Derived.Test.YteadlcncnhbmjaaGreatDoorMsaz
import Derived.Test.YteadlcncnhbmjaaGreatDoorMsba
set_option linter.unusedSimpArgs false
set_option maxHeartbeats 16000000
set_option maxRecDepth 100000
set_option linter.unusedVariables false
namespace Go.Proofs.YteadlcncnhbmjaaGreatDoor
open Go.RowKit Go.Lib
theorem Gs (w : World) (sz : Nat) : SlB w w.heap.size (.slice none 0 0) 0 sz [] := ⟨none, 0, rfl, ⟨by rw [Nat.zero_mul]; rfl, fun j v hj => by cases hj⟩, fun hn => absurd hn (Nat.lt_irrefl 0)⟩
theorem MN (p : Nat → Prop) (w : World) (i : List UInt8) (n : Int) : Sv p w { Ar.Rm.zero with id := i, next := n } #[.string (bstr i), nilS, nilS, nilS, nilS, nilS, .int .i64 n, nilS, nilS] := ⟨fun w' _ _ => ⟨_, _, _, _, _, _, _, rfl, ⟨none, 0, rfl, fun i e h => by cases h⟩, Gs w' 4, ⟨none, 0, rfl, fun i e h => by cases h⟩, Gs w' 1, Gs w' 3, Gs w' 4, Gs w' 2⟩, fun i a n c h => by
 match i, h with
 | 0, h => simp at h
 | 1, h => simp at h
 | 2, h => simp at h
 | 3, h => simp at h
 | 4, h => simp at h
 | 5, h => simp at h
 | 6, h => simp at h
 | 7, h => simp at h
 | 8, h => simp at h
 | n + 9, h => simp at h⟩
theorem MM (p : Nat → Prop) (w : World) : Sv p w Ar.Rm.zero zRm := MN p w [] 0
theorem Sv.below {p : Nat → Prop} {w w' : World} {r : Ar.Rm} {X : Array Value} (h : Sv p w r X) (hb : Below w.heap.size w w') : Sv p w' r X :=
 ⟨fun w2 h1 h2 => h.low (by rw [h1]; exact hb.size) (fun k hk hp => (h2 k hp).trans (hb.block k hk)), h.2⟩
theorem Sv.put {p : Nat → Prop} {w w' : World} {r : Ar.Rm} {X : Array Value} {g : Nat} (h : Sv p w r X) (hg : p g) (hs : w'.heap.size = w.heap.size) (ho : ∀ k, k ≠ g → w'.heap[k]? = w.heap[k]?) : Sv p w' r X :=
 ⟨fun w2 h1 h2 => h.1 w2 (h1.trans hs) (fun k hk => (h2 k hk).trans (ho k (fun e => hk (e ▸ hg)))), h.2⟩
theorem Po {T : TypeId} {d : TypeDesc} {be : Nat} {X : Array Value} {ops : Array Oper} {op : Oper} {a : Act} {w : World} {Q : Exit → Act → World → Prop} {K : Act → World → Prop} {F : Prop} (hd : (match d with | .struct _ | .array _ _ => true | _ => false) = true) (hu : Tryz.prog.underlying T = some d) (hi : (Tryz.prog.info? T).map (·.size) = some X.size) (hB : Blk w be T X)
  (hw : Region.wanted op (yielded ops a.tmps) = true) (x : Operand) (ho : op.op = .load T x) (hx : a.eval x = .pointer (some ⟨be, 0, none⟩)) (h : K (a.put op.dst (.agg X)) w) : if Region.wanted op (yielded ops a.tmps) = true then op.wp Tryz.prog a w K Q else F := by
 rw [if_pos hw];unfold Oper.wp execOp;simp only [ho, hx, Instr.loadAt, Instr.sureAddr, Sem.run_bind, Sem.run_pure, Result.andThen_ok, run_loadVar_row w be T T X (0, 0) d hB hu (by cases d <;> first | rfl | cases hd) hi];exact h
theorem TkA.both {p : Nat → Prop} {x : Option Ar.Rm} {e : Ending} {w' : World} (h : TkA p x e w') : ∃ (cs : Array Value) (b : Bool), e = .returned (.tuple #[.agg cs, .bool b]) ∧ cs.size = 9 ∧ cs.all (·.oneCell') = true ∧ (b = true → ∃ y, x = some y ∧ Sv p w' y cs) ∧ (b = false → x = none) := by
 rcases h with ⟨y, cs, h, rfl, h2⟩ | ⟨h, cs, rfl, h3, h4⟩
 ·exact ⟨cs, true, rfl, h2.self.size, h2.self.one, fun _ => ⟨y, h, h2⟩, fun h => by cases h⟩
 ·exact ⟨cs, false, rfl, h3, h4, (fun h => by cases h), fun _ => h⟩
theorem HeA.both {x : Option (List UInt8 × Int)} {e : Ending} (h : HeA x e) : ∃ (cs : Array Value) (b : Bool), e = .returned (.tuple #[.agg cs, .bool b]) ∧ cs.size = 9 ∧ cs.all (·.oneCell') = true ∧ (b = true → ∃ i n, x = some (i, n) ∧ cs = #[.string (bstr i), nilS, nilS, nilS, nilS, nilS, .int .i64 n, nilS, nilS]) ∧ (b = false → x = none) := by
 rcases h with ⟨i, n, h, rfl⟩ | ⟨h, cs, rfl, h3, h4⟩
 ·exact ⟨_, true, rfl, rfl, by simp [Value.oneCell'], fun _ => ⟨i, n, h, rfl⟩, fun h => by cases h⟩
 ·exact ⟨cs, false, rfl, h3, h4, (fun h => by cases h), fun _ => h⟩
structure RdK (p : Nat → Prop) (L : List (List UInt8)) (W wr : World) (g : Nat) (k la : Nat) (r : Ar.Rm) (XC : Array Value) : Prop where
 lt : k < L.length
 bel : Below g W wr
 blk : Blk wr g 55 XC
 val : Sv p wr r XC
 all : Ar.xAll 0 1 Ar.Rm.zero L = Ar.xAll k la r (L.drop k)
 num : r.num ≤ k
 zero : k = 0 → XC = zRm ∧ r = Ar.Rm.zero ∧ la = 1
 last : 1 ≤ la
theorem N0 (s : ByteArray) (w : World) (hs : s.size ≤ 100000) : Calls Tryz.prog 30 #[.string s] w fun e w' => RdR (Ar.xread s.data.toList) e w' ∧ Below w.heap.size w w' := by
 have hll := Ar.DC s.data.toList;have hls := Ar.Cj s.data.toList;have hln := Ar.Es s.data.toList;have hsz := AI s;have HX : Hid (Ar.xread s.data.toList = Ar.xAll 0 1 Ar.Rm.zero (Ar.lines s.data.toList)) := hid rfl;have HLN := hid (fun W => H7 s W (by omega));have hs5 : ¬ (500000 : Int) < (s.size : Int) := by omega
 generalize Ar.lines s.data.toList = L at *;generalize Ar.xread s.data.toList = XR at *;have hlen : L.length ≤ 1000000 := by omega
 have HLS : Hid (∀ l ∈ L, l.length ≤ 100000) := hid (fun l hl => Nat.le_trans (hls l hl) (by omega));have hl0 : 0 < L.length := List.length_pos_iff.2 hln;clear hll hls hln hsz;have hk1 : Blk (w.alloc (.cells zRm 55)) w.heap.size 55 zRm := Blk.new w 55 zRm;have hb1 := (Below.refl w.heap.size w).alloc (Nat.le_refl _) (.cells zRm 55);generalize hw1 : w.alloc (.cells zRm 55) = w1 at *;have HK1 := hid hk1;have HB1 := hid hb1;clear hk1 hb1;go_enter Tryz.func30, Tryz.ntmps30;go_wp2_with fail;refine (HLN.out _).mono ?_;rintro e w2 ⟨⟨v, rfl, ho⟩, hb2⟩;obtain ⟨A, c, rfl⟩ := Ax ho;have HR2 := hid ((SlB.own ho).at_).1;have HB2 := hid (HB1.out.trans (hb2.mono HB1.out.size));have HK2 := hid (HK1.out.below hb2 HK1.out.lt);clear ho hb2;have hk3 : Blk (w2.alloc (.cells zRm 55)) w2.heap.size 55 zRm := Blk.new w2 55 zRm;have hb3 := (Below.refl w2.heap.size w2).alloc (Nat.le_refl _) (.cells zRm 55);have HV3 : Hid (Sv (fun k => k = w.heap.size ∨ k = w2.heap.size) (w2.alloc (.cells zRm 55)) Ar.Rm.zero zRm) := hid (MM _ _);generalize hw3 : w2.alloc (.cells zRm 55) = w3 at *;have HK3 := hid hk3;have HB3 := hid hb3;clear hk3 hb3;go_wp2_with fail
 go_loopw [7, 8] (fun lv ix wr => ∃ (k la : Nat) (r : Ar.Rm) (XC : Array Value), lv = .int .i64 (la : Int) ∧ ix = .int .i64 (k : Int) ∧ la ≤ 8 ∧ RdK (fun k => k = w.heap.size ∨ k = w2.heap.size) L w2 wr w2.heap.size k la r XC) (fun _ ix _ => L.length - (RowKit.intOf ix).toNat)
 case atStart => exact ⟨0, 1, Ar.Rm.zero, zRm, rfl, rfl, by decide, ⟨hl0, HB3.out, HK3.out, HV3.out, rfl, Nat.le_refl _, fun _ => ⟨rfl, rfl, rfl⟩, Nat.le_refl _⟩⟩
 case round =>
  obtain ⟨k, la, r, XC, rfl, rfl, hla, hR⟩ := hrel;have HR := hid hR;have hlt := hR.lt;obtain ⟨x, hx⟩ : ∃ x, L[k]? = some x := ⟨_, List.getElem?_eq_getElem hlt⟩;have HXL := hid (HLS.out x (List.mem_of_getElem? hx));obtain ⟨b, off, rfl, hcx⟩ := (HR2.out.below hR.bel).2 k (.string (bstr x)) (Lo L k x hx);have HX0 := hid hx;have HSC : Hid ((Tryz.prog.info? 55).map (·.size) = some XC.size) := hid (by rw [hR.val.self.size]; exact Ah);have HON := hid hR.val.self.one;have HRES : Hid (Blk wr w.heap.size 55 zRm) := hid (HK2.out.below hR.bel HK2.out.lt);have HBW := hid (HB2.out.trans (hR.bel.mono HB2.out.size));have HRB := hid hR.blk;have HZC : Hid ((zRm : Array Value).size = XC.size) := hid (by rw [hR.val.self.size]; rfl);have hg6 := hR.bel.size;have hg2 := HK2.out.lt;have hwk := GW k (by omega);by_cases hlast : k + 1 = L.length
  ·have hdrop : L.drop k = [x] := by
    rw [List.drop_eq_getElem_cons hlt, List.drop_eq_nil_of_le (by omega)];rw [List.getElem?_eq_getElem hlt] at hx;injection hx with hx;rw [hx]
   have HALL : Hid (XR = if x = [] ∧ 0 < k then .inl r else .inr (k + 1)) := hid (by rw [HX.out, hR.all, hdrop, Ar.OP]);clear hR hx hdrop;by_cases hx0 : x = [] ∧ 0 < k
   ·have he := emp_t hx0.1;have hk0 : (0 : Int) < (k : Int) := by omega
    have HA2 : Hid (XR = .inl r) := hid (by rw [HALL.out, if_pos hx0]);have hkl : ((k : Int) == (L.length : Int) - 1) = true := by rw [beq_iff_eq]; omega
    generalize hXB : bstr x = XB at *
    go_wp2_with (first
     | (refine wpList_load_row rfl 55 _ rfl w2.heap.size rfl 55 XC (0, 0) _ HRB.out Tryz.underlying55 rfl HSC.out ?_)
     | ((with_reducible refine Aa rfl 55 _ _ rfl w.heap.size XC ?_ ?_ 55 zRm HRES.out HSC.out ?_ HON.out ?_); rfl; rfl; exact HZC.out; intro w5 hk5 hs5 hbl5 hot5))
    refine bodyPost_ret (Ao rfl _ _ w.heap.size _ XC _ rfl hk5 Tryz.underlying55 rfl HSC.out) rfl ?_;rw [HA2.out];exact ⟨.inl ⟨r, XC, rfl, rfl, HR.out.val.1 w5 hs5 (fun k h => hot5 k (fun e => h (.inl e)))⟩, HBW.out.trans (hbl5 _ (Nat.le_refl _))⟩
   ·have HA2 : Hid (XR = .inr (k + 1)) := hid (by rw [HALL.out, if_neg hx0]);have hkl : ((k : Int) == (L.length : Int) - 1) = true := by rw [beq_iff_eq]; omega
    have HAL : Hid (XR = .inr L.length) := hid (by rw [HA2.out, hlast]);by_cases hxe : x = []
    ·have he := emp_t hxe;have hk0 : ¬ (0 : Int) < (k : Int) := fun h => hx0 ⟨hxe, by omega⟩
     clear hxe hx0;generalize hXB : bstr x = XB at *;go_wp2_with ((with_reducible refine Aa rfl 55 _ _ rfl w.heap.size zRm ?_ ?_ 55 zRm HRES.out ?_ rfl CF ?_); rfl; rfl; exact Ah; intro wz hkr hsz hblz hotz);refine bodyPost_ret (Ao rfl _ _ w.heap.size _ zRm _ rfl hkr Tryz.underlying55 rfl Ah) rfl ?_;exact ⟨.inr ⟨_, HAL.out, rfl⟩, HBW.out.trans (hblz _ (Nat.le_refl _))⟩
    ·have he := emp_f hxe;generalize hXB : bstr x = XB at *;go_wp2_with ((with_reducible refine Aa rfl 55 _ _ rfl w.heap.size zRm ?_ ?_ 55 zRm HRES.out ?_ rfl CF ?_); rfl; rfl; exact Ah; intro wz hkr hsz hblz hotz);refine bodyPost_ret (Ao rfl _ _ w.heap.size _ zRm _ rfl hkr Tryz.underlying55 rfl Ah) rfl ?_;exact ⟨.inr ⟨_, HAL.out, rfl⟩, HBW.out.trans (hblz _ (Nat.le_refl _))⟩
  ·obtain ⟨t, L', hdrop⟩ : ∃ t L', L.drop k = x :: t :: L' := by
    rw [List.getElem?_eq_getElem hlt] at hx;injection hx with hx;exact ⟨_, _, by rw [List.drop_eq_getElem_cons hlt, List.drop_eq_getElem_cons (show k + 1 < L.length by omega), hx]⟩
   have hdrop1 : L.drop (k + 1) = t :: L' := by
    have h := congrArg (List.drop 1) hdrop;rwa [List.drop_drop] at h
   have HALL : Hid (XR = Ar.xAll k la r (x :: t :: L')) := hid (by rw [HX.out, hR.all, hdrop]);clear hx;by_cases hk0 : k = 0
   ·obtain ⟨hXZ, hrz, hla1⟩ := hR.zero hk0;have HHE := hid (fun W => Nh x W HXL.out);have HA2 : Hid (XR = match Ar.xhead x with | some p => Ar.xAll 1 1 { Ar.Rm.zero with id := p.1, next := p.2 } (t :: L') | none => .inr 1) := hid (by rw [HALL.out, hrz, hk0, Ar.Og]; rfl);have hkl : ((k : Int) == (L.length : Int) - 1) = false := by rw [beq_eq_false_iff_ne]; omega
    have hkz : ((k : Int) == 0) = true := by rw [beq_iff_eq]; omega
    subst hXZ;have HK0 := hid hk0;have HL0 := hid hla1;have HD1 := hid hdrop1;have hbg : b < w2.heap.size := by
     obtain ⟨b', o', e', c'⟩ := HR2.out.2 k (.string (bstr x)) (Lo L k x HX0.out);injection e' with e';injection e' with e1;rw [e1];exact AV c'
    clear hrz hdrop hdrop1 hR hk0 hla1;generalize hXB : bstr x = XB at *;go_wp2_with fail;have hcb := AV hcx;refine wp_region_noPanic ?_;refine DZ (fun W => W.cell? ⟨b, off + k, none⟩ = some (.string XB)) (fun i => i == 10) (by kernel_rfl) hcx (fun hHeld => ?_);refine AY (i := 1) (oi := _) (v := ?_) rfl (by kernel_rfl) (by kernel_rfl) (by kernel_rfl) (by kernel_rfl) (fun _ _ _ h => h) (Or.inl ⟨by rfl, ?_⟩) hHeld ?_;rotate_left
    ·intro wq hSw;go_simp
     (try with_reducible rfl)
    (try simp only [Act.put, pk1, pk2, pk3, pk4, pk5, pk6])
    refine AY (i := 2) (oi := _) (v := ?_) rfl (by kernel_rfl) (by kernel_rfl) (by kernel_rfl) (by kernel_rfl) (fun _ _ _ h => h) (Or.inl ⟨by rfl, ?_⟩) hHeld ?_;rotate_left
    ·intro wq hSw;go_simp
     (try with_reducible rfl)
    (try simp only [Act.put, pk1, pk2, pk3, pk4, pk5, pk6])
    refine AY (i := 3) (oi := _) (v := ?_) rfl (by kernel_rfl) (by kernel_rfl) (by kernel_rfl) (by kernel_rfl) (fun _ _ _ h => h) (Or.inl ⟨by rfl, ?_⟩) hHeld ?_;rotate_left
    ·intro wq hSw;go_simp
     (try with_reducible rfl)
    (try simp only [Act.put, pk1, pk2, pk3, pk4, pk5, pk6])
    refine AY (i := 4) (oi := _) (v := ?_) rfl (by kernel_rfl) (by kernel_rfl) (by kernel_rfl) (by kernel_rfl) (fun _ _ _ h => h) (Or.inl ⟨by rfl, ?_⟩) hHeld ?_;rotate_left
    ·intro wq hSw;go_simp
     (try with_reducible rfl)
    (try simp only [Act.put, pk1, pk2, pk3, pk4, pk5, pk6])
    refine AP (rs := [0]) (by kernel_rfl) (by simp) ?_;refine ReadyT.cons (o := _) rfl (fun K hK => ?_) ReadyT.nil;refine Po rfl Tryz.underlying55 HSC.out HRB.out.drew (by rfl) _ rfl rfl ?_;refine hK.out _ _ (.inr hHeld) ?_;clear hK K
    (try simp only [Act.put, pk1, pk2, pk3, pk4, pk5, pk6])
    refine AP (rs := [5]) (by kernel_rfl) (by simp) ?_;refine ReadyT.cons (o := _) rfl (fun K hK => ?_) ReadyT.nil;go_simp;refine (HHE.out _).mono ?_;rintro e w4 ⟨hhe, hb4⟩;obtain ⟨cs, c, rfl, hc9, hc1, hct, hcf⟩ := hhe.both;have HCT := hid hct;have HCF := hid hcf;have HC9 := hid hc9;have HC1 := hid hc1;have HK4 := hid (HRB.out.drew.below hb4 HRB.out.lt);have HB4 : Hid (Below w2.heap.size w2 w4) := hid (HR.out.bel.drew.trans (hb4.mono hg6));have HZ4 : Hid (Blk w4 w.heap.size 55 zRm) := hid (HRES.out.drew.below hb4 HRES.out.lt);have HBW4 : Hid (Below w.heap.size w w4) := hid (HBW.out.drew.trans (hb4.mono (by show w.heap.size ≤ wr.heap.size; omega)));have hHeld2 : w4.cell? ⟨b, off + k, none⟩ = some (.string XB) := Ip (w := wr.drew) hcx hb4 hcb;clear hhe hc9 hc1 hct hcf hb4;refine hK.out _ _ (.inr hHeld2) ?_;clear hK K hHeld;have hHeld := hHeld2;clear hHeld2
    (try simp only [Act.put, pk1, pk2, pk3, pk4, pk5, pk6])
    refine AY (i := 6) (oi := _) (v := ?_) rfl (by kernel_rfl) (by kernel_rfl) (by kernel_rfl) (by kernel_rfl) (fun _ _ _ h => h) (Or.inl ⟨by rfl, ?_⟩) hHeld ?_;rotate_left
    ·intro wq hSw;go_simp
     (try with_reducible rfl)
    (try simp only [Act.put, pk1, pk2, pk3, pk4, pk5, pk6])
    refine AY (i := 7) (oi := _) (v := ?_) rfl (by kernel_rfl) (by kernel_rfl) (by kernel_rfl) (by kernel_rfl) (fun _ _ _ h => h) (Or.inl ⟨by rfl, ?_⟩) hHeld ?_;rotate_left
    ·intro wq hSw;go_simp
     (try with_reducible rfl)
    (try simp only [Act.put, pk1, pk2, pk3, pk4, pk5, pk6])
    refine AY (i := 8) (oi := _) (v := ?_) rfl (by kernel_rfl) (by kernel_rfl) (by kernel_rfl) (by kernel_rfl) (fun _ _ _ h => h) (Or.inl ⟨by rfl, ?_⟩) hHeld ?_;rotate_left
    ·intro wq hSw;go_simp
     (try with_reducible rfl)
    (try simp only [Act.put, pk1, pk2, pk3, pk4, pk5, pk6])
    refine AP (rs := [9]) (by kernel_rfl) (by simp) ?_;refine ReadyT.cons (o := _) rfl (fun K hK => ?_) ReadyT.nil;rw [if_pos (by rfl)];refine wp_store_row 55 _ _ rfl w2.heap.size cs rfl rfl 55 zRm HK4.out (by rw [HC9.out]; exact Ah) (by rw [HC9.out]; rfl) HC1.out ?_;have HK5 := hid (setRow_heap w4 w2.heap.size zRm cs 55 (0, 0) HK4.out);have HB5 := hid (below_setRow (g := w2.heap.size) HB4.out (Nat.le_refl _) cs);have HZ5 : Hid (Blk (w4.setRow w2.heap.size cs) w.heap.size 55 zRm) := hid ((setRow_other _ _ _ _ (by omega)).trans HZ4.out);have HBW5 : Hid (Below w.heap.size w (w4.setRow w2.heap.size cs)) := hid (below_setRow HBW4.out (by omega) cs);have hHeld3 : (w4.setRow w2.heap.size cs).cell? ⟨b, off + k, none⟩ = some (.string XB) := (World.cell?_of_block (setRow_other _ _ _ _ (show b ≠ w2.heap.size by omega))).trans hHeld;generalize w4.setRow w2.heap.size cs = w5 at *;refine hK.out _ _ (.inr hHeld3) ?_;clear hK K hHeld hHeld3
    (try simp only [Act.put, pk1, pk2, pk3, pk4, pk5, pk6])
    refine AP (rs := [10]) (by kernel_rfl) (by simp) ?_;refine ReadyT.cons (o := _) rfl (fun K hK => ?_) ReadyT.nil;go_simp;refine hK.out _ _ (.inl rfl) ?_;clear hK K
    (try simp only [Act.put, pk1, pk2, pk3, pk4, pk5, pk6])
    refine Fw (by kernel_rfl) ?_ _;refine NoPanic.normal ?_
    cases c with
    | true =>
     obtain ⟨i, n, hxh, rfl⟩ := HCT.out rfl;have HA3 : Hid (XR = Ar.xAll 1 1 { Ar.Rm.zero with id := i, next := n } (t :: L')) := hid (by rw [HA2.out, hxh]);clear hxh;go_wp2_with fail
     go_roundw
     case rel => exact ⟨k + 1, la, _, _, rfl, by go_num, hla, ⟨by omega, HB5.out, HK5.out, MN _ _ i n, by rw [← HX.out, HA3.out, HD1.out, HK0.out, HL0.out], Nat.zero_le _, (fun h => by omega), by rw [HL0.out]; exact Nat.le_refl _⟩⟩
     case measure => simp [RowKit.intOf]; omega
    | false =>
     have HA3 : Hid (XR = .inr (k + 1)) := hid (by rw [HA2.out, HCF.out rfl, HK0.out]);go_wp2_with ((with_reducible refine Aa rfl 55 _ _ rfl w.heap.size zRm ?_ ?_ 55 zRm HZ5.out ?_ rfl CF ?_); rfl; rfl; exact Ah; intro wz hkr hsz hblz hotz);refine bodyPost_ret (Ao rfl _ _ w.heap.size _ zRm _ rfl hkr Tryz.underlying55 rfl Ah) rfl ?_;exact ⟨.inr ⟨_, HA3.out, rfl⟩, HBW5.out.trans (hblz _ (Nat.le_refl _))⟩
   ·have HA2 : Hid (XR = match Ar.xline x r la with | some p => Ar.xAll (k + 1) p.1 p.2 (t :: L') | none => .inr (k + 1)) := hid (by rw [HALL.out, Ar.NV _ _ _ _ _ _ hk0]; rfl);have HFO := hid (fun W => N8 x W HXL.out);have hkl : ((k : Int) == (L.length : Int) - 1) = false := by rw [beq_eq_false_iff_ne]; omega
    have hkz : ((k : Int) == 0) = false := by rw [beq_eq_false_iff_ne]; omega
    have HFR := hid (Ar.Lc x);have HXI : Hid (Ar.xline x r la = if la < (Ar.xform x).1 ∨ (Ar.xform x).1 = la ∧ (Ar.xform x).1 ≠ 5 then (Ar.xtake r (Ar.xform x).1 (Ar.xform x).2).map fun y => ((Ar.xform x).1, y) else none) := hid rfl;clear hR hdrop;generalize hXB : bstr x = XB at *;go_wp2_with fail;refine (HFO.out _).mono ?_;rintro e w4 ⟨rfl, hb4⟩;have HB4 : Hid (Below w2.heap.size w2 w4) := hid (HR.out.bel.trans (hb4.mono hg6));have HK4 := hid (HRB.out.below hb4 HRB.out.lt);have HV4 := hid (HR.out.val.below hb4);have HZ4 : Hid (Blk w4 w.heap.size 55 zRm) := hid (HRES.out.below hb4 HRES.out.lt);have HBW4 := hid (HBW.out.trans (hb4.mono (by omega)));have hg4 := hb4.size;clear hb4;generalize hF : Ar.xform x = F at *;obtain ⟨f, y⟩ := F;simp only at HFR HXI ⊢;clear hF;by_cases ht : la < f ∨ f = la ∧ f ≠ 5
    ·have HA3 : Hid (XR = match Ar.xtake r f y with | some q => Ar.xAll (k + 1) f q (t :: L') | none => .inr (k + 1)) := hid (by
      rw [HA2.out, HXI.out, if_pos ht]
      cases Ar.xtake r f y <;> rfl)
     have HTK := hid (fun W hv hp => Ox r XC f y W (by have := HFR.out.1; have := HR.out.last; omega) (fun k => k = w.heap.size ∨ k = w2.heap.size) hp hv (Nat.le_trans HFR.out.2 HXL.out) (by have := HR.out.num; unfold Ar.Rm.num at this; refine ⟨?_, ?_, ?_, ?_, ?_, ?_⟩ <;> omega));have HF8 : Hid (f ≤ 8) := hid (by have := HFR.out.1; omega);have HD1 := hid hdrop1;have HL1 : Hid (1 ≤ f) := hid (by have := HR.out.last; omega);have hdis : la < f ∨ (¬ la < f ∧ ((f : Int) == (la : Int)) = true ∧ (f == la) = true ∧ ((f : Int) == 5) = false) := by
      rcases ht with h | ⟨h, h5⟩
      ·exact .inl h
      ·exact .inr ⟨by omega, by rw [beq_iff_eq]; omega, by rw [beq_iff_eq]; exact h, by rw [beq_eq_false_iff_ne]; omega⟩
     clear ht hdrop1;rcases hdis with d1 | ⟨d1, d2, d4, d3⟩
     all_goals
      go_wp2_with (refine wpList_load_row rfl 55 _ rfl w2.heap.size rfl 55 XC (0, 0) _ HK4.out Tryz.underlying55 rfl HSC.out ?_);have hg7 := HRB.out.lt;refine (HTK.out w4 HV4.out (fun j hj => by rcases hj with h | h <;> omega)).mono ?_;rintro e w5 ⟨hta, hb5⟩;obtain ⟨cs, c, rfl, hc9, hc1, hct, hcf⟩ := hta.both;have HCT := hid hct;have HCF := hid hcf;have HC1 := hid hc1;have HS5 : Hid ((Tryz.prog.info? 55).map (·.size) = some cs.size) := hid (by rw [hc9]; exact Ah);have HZ9 : Hid (XC.size = cs.size) := hid (by rw [HR.out.val.self.size, hc9]);have HK5 := hid (HK4.out.below hb5 HK4.out.lt);have HZ5 := hid (HZ4.out.below hb5 HZ4.out.lt);have HB5 := hid (HB4.out.trans (hb5.mono (by omega)));have HBW5 := hid (HBW4.out.trans (hb5.mono (by omega)));clear hta hb5 hc9 hc1 hct hcf
      cases c with
      | true =>
       obtain ⟨z, hz, hv⟩ := HCT.out rfl;have HA4 : Hid (XR = Ar.xAll (k + 1) f z (t :: L')) := hid (by rw [HA3.out, hz]);have HNZ := hid (Ar.NQ hz);have HV5 := hid hv;clear hz hv;go_wp2_with ((with_reducible refine Aa rfl 55 _ _ rfl w2.heap.size cs ?_ ?_ 55 XC HK5.out HS5.out ?_ HC1.out ?_); rfl; rfl; exact HZ9.out; intro w6 hk6 hs6 hbl6 hot6; have HK6 := hid hk6; have HB6 := hid (HB5.out.trans (hbl6 _ (Nat.le_refl _))); have HV6 := hid (HV5.out.put (.inr rfl) hs6 hot6); clear hk6 hs6 hbl6 hot6)
       go_roundw
       case rel => exact ⟨k + 1, f, z, cs, rfl, by go_num, HF8.out, ⟨by omega, HB6.out, HK6.out, HV6.out, by rw [← HX.out, HA4.out, HD1.out], by have := HNZ.out; have := HR.out.num; omega, (fun h => by omega), HL1.out⟩⟩
       case measure => simp [RowKit.intOf]; omega
      | false =>
       have HA4 : Hid (XR = .inr (k + 1)) := hid (by rw [HA3.out, HCF.out rfl])
       go_wp2_with (first
        | ((with_reducible refine Aa rfl 55 _ _ rfl w2.heap.size cs ?_ ?_ 55 XC HK5.out HS5.out ?_ HC1.out ?_); rfl; rfl; exact HZ9.out; intro w6 hk6 hs6 hbl6 hot6; have HZ6 : Hid (Blk w6 w.heap.size 55 zRm) := hid ((hot6 w.heap.size (by omega)).trans HZ5.out); have HBW6 := hid (HBW5.out.trans (hbl6 w.heap.size (by omega))); clear hk6 hs6 hbl6 hot6)
        | ((with_reducible refine Aa rfl 55 _ _ rfl w.heap.size zRm ?_ ?_ 55 zRm HZ6.out ?_ rfl CF ?_); rfl; rfl; exact Ah; intro wz hkr hsz hblz hotz))
       refine bodyPost_ret (Ao rfl _ _ w.heap.size _ zRm _ rfl hkr Tryz.underlying55 rfl Ah) rfl ?_;exact ⟨.inr ⟨_, HA4.out, rfl⟩, HBW6.out.trans (hblz _ (Nat.le_refl _))⟩
    ·have HA3 : Hid (XR = .inr (k + 1)) := hid (by rw [HA2.out, HXI.out, if_neg ht]);have d1 : ¬ la < f := by omega
     by_cases hfl : f = la
     ·have d2 : ((f : Int) == (la : Int)) = true := by rw [beq_iff_eq]; omega
      have d4 : (f == la) = true := by rw [beq_iff_eq]; exact hfl
      have d3 : ((f : Int) == 5) = true := by
       rw [beq_iff_eq];rcases Nat.lt_or_ge f 5 with h | h
       ·exact absurd (.inr ⟨hfl, by omega⟩) ht
       ·rcases Nat.lt_or_ge 5 f with h2 | h2
        ·exact absurd (.inr ⟨hfl, by omega⟩) ht
        ·omega
      clear ht hfl;go_wp2_with ((with_reducible refine Aa rfl 55 _ _ rfl w.heap.size zRm ?_ ?_ 55 zRm HZ4.out ?_ rfl CF ?_); rfl; rfl; exact Ah; intro wz hkr hsz hblz hotz);refine bodyPost_ret (Ao rfl _ _ w.heap.size _ zRm _ rfl hkr Tryz.underlying55 rfl Ah) rfl ?_;exact ⟨.inr ⟨_, HA3.out, rfl⟩, HBW4.out.trans (hblz _ (Nat.le_refl _))⟩
     ·have d2 : ((f : Int) == (la : Int)) = false := by rw [beq_eq_false_iff_ne]; omega
      have d4 : (f == la) = false := by rw [beq_eq_false_iff_ne]; exact hfl
      clear ht hfl;go_wp2_with ((with_reducible refine Aa rfl 55 _ _ rfl w.heap.size zRm ?_ ?_ 55 zRm HZ4.out ?_ rfl CF ?_); rfl; rfl; exact Ah; intro wz hkr hsz hblz hotz);refine bodyPost_ret (Ao rfl _ _ w.heap.size _ zRm _ rfl hkr Tryz.underlying55 rfl Ah) rfl ?_;exact ⟨.inr ⟨_, HA3.out, rfl⟩, HBW4.out.trans (hblz _ (Nat.le_refl _))⟩
theorem PW (r : Ar.Rm) (X : Array Value) (w : World) (hx : RmV w r X) (hf : Fine r) : Calls Tryz.prog 26 #[.agg X] w fun e w' => WrA r e ∧ Below w.heap.size w w' := by
 obtain ⟨_, _, _, _, _, _, _, rfl, h⟩ := hx;exact Jf r _ _ _ _ _ _ _ w h hf
def rdN : Ar.Rm ⊕ Nat → Nat
 | .inl _ => 0
 | .inr n => n
def rdE : Ar.Rm ⊕ Nat → Int
 | .inl _ => 0
 | .inr _ => 10
def rdM : Ar.Rm ⊕ Nat → Ar.Rm
 | .inl r => r
 | .inr _ => Ar.Rm.zero
def RdB (n : Nat) (er : Int) (r : Ar.Rm) (e : Ending) (w' : World) : Prop := ∃ cells, e = .returned (.tuple #[.agg cells, .int .i64 (n : Int), .int .i64 er]) ∧ RmV w' r cells
theorem RdR.both {x : Ar.Rm ⊕ Nat} {e : Ending} {w' : World} (h : RdR x e w') : RdB (rdN x) (rdE x) (rdM x) e w' := by
 rcases h with ⟨y, cells, rfl, rfl, h⟩ | ⟨n, rfl, rfl⟩
 ·exact ⟨cells, rfl, h⟩
 ·exact ⟨_, rfl, (MM (fun _ => False) w').self⟩
theorem Ny (s : ByteArray) (w : World) (hR : Ready w) : Calls Tryz.prog 8 #[.string s] w fun e w' => e = .returned (.bool true) ∧ Below w.heap.size w w' := by
 have HRY := hid hR;have HLV := hid (fun W h => Oe W h);clear hR;by_cases hbig : 2000 < s.size
 ·have h1' : (2000 : Int) < (s.size : Int) := by omega
  go_enter Tryz.func8, Tryz.ntmps8;go_wp2_with fail;refine (HLV.out _ HRY.out).mono ?_;rintro e w2 ⟨rfl, hb2⟩;go_wp2_with fail;go_ret;exact ⟨rfl, hb2⟩
 ·have ha : s.size ≤ 2000 := by omega
  have h1' : decide ((2000 : Int) < (s.size : Int)) = false := decide_eq_false (by omega);have hsz := AI s;have hss : bstr s.data.toList = s := Bg rfl;have HLN := hid (fun W h => De s W (by omega) h);obtain ⟨X, hX⟩ : ∃ X, Ar.read s.data.toList = X := ⟨_, rfl⟩
  have HC : Hid (((rdE X = 0 ∧ rdN X = 0 ∧ Ar.write (rdM X) = some s.data.toList ∧ Fine (rdM X)) ∨ (rdE X = 10 ∧ 0 < rdN X ∧ rdN X ≤ (Ar.lines s.data.toList).length)) ∧ (∀ e ∈ (rdM X).events, ∀ v ∈ e, v.WOk) ∧ (∀ e ∈ (rdM X).waiting, ∀ v ∈ e, v.WOk) ∧ Few (rdM X)) := hid (by
   cases X with
   | inl r =>
    obtain ⟨htx, hok⟩ := Ar.L0 hX;obtain ⟨hfi, hfew⟩ := Nd r hok (by rw [htx]; omega);refine ⟨.inl ⟨rfl, rfl, ?_, hfi⟩, fun e he => (hfi.ev e he).1, fun e he => (hfi.wait e he).1, hfew⟩;show Ar.write r = _;unfold Ar.write;rw [htx, if_neg (by omega)]
   | inr n =>
    obtain ⟨h1, h2⟩ := Ar.Pf hX;refine ⟨.inr ⟨rfl, h1, h2⟩, (fun e h => by cases h), (fun e h => by cases h), ?_⟩
    refine ⟨?_, ?_, ?_, ?_, ?_, ?_, ?_⟩ <;> exact Nat.zero_le _)
  have HR1 : Hid (∀ W, Ready W → Calls Tryz.prog 28 #[.string s] W fun e w' => RdB (rdN X) (rdE X) (rdM X) e w' ∧ Below W.heap.size W w') := hid (fun W h => (Kt s W (by omega) (fun l hl => Nat.le_trans (Ar.Cj _ l hl) (by omega)) h).mono (fun e w' h => ⟨by rw [← hX]; exact h.1.both, h.2⟩));have HR2 : Hid (∀ W, Calls Tryz.prog 30 #[.string s] W fun e w' => RdB (rdN X) (rdE X) (rdM X) e w' ∧ Below W.heap.size W w') := hid (fun W => (N0 s W (by omega)).mono (fun e w' h => ⟨by rw [← hX, ← Ar.Qf]; exact h.1.both, h.2⟩));have hee := beq_self_eq_true s.toList;generalize rdE X = er at *;generalize rdN X = n at *;generalize rdM X = r at *;generalize hLS : Ar.lines s.data.toList = LS at *;have HTS := hid hss;clear hX hLS hss hsz hbig;clear X;generalize hSD : s.data.toList = SD at *;go_enter Tryz.func8, Tryz.ntmps8;go_wp2_with fail;refine (HR1.out _ HRY.out).mono ?_;rintro e w1 ⟨⟨c1, rfl, hv1⟩, hb1⟩;have HB1 := hid hb1;have HV1 := hid hv1;have HS1 : Hid ((Tryz.prog.info? 55).map (·.size) = some c1.size) := hid (by rw [hv1.size]; exact Ah);have HO1 := hid hv1.one;have HZ1 : Hid (zRm.size = c1.size) := hid (by rw [hv1.size]; rfl);clear hb1 hv1;go_wp2_with ((with_reducible refine AF rfl 55 _ _ rfl w1.heap.size c1 ?_ ?_ 55 _ (Blk.new w1 55 _) HS1.out ?_ HO1.out ?_); rfl; rfl; exact HZ1.out; intro w2 hk2 hs2 hbl2; have hz2 := ((Below.refl w1.heap.size w1).alloc (Nat.le_refl _) (.cells zRm 55)).trans (hbl2 w1.heap.size (Nat.le_refl _)); have HB2 := hid (HB1.out.trans (hz2.mono HB1.out.size)); have HV2 := hid (HV1.out.below hz2); have HK2 := hid hk2; clear hk2 hbl2 hz2 hs2);refine (HR2.out _).mono ?_;rintro e w3 ⟨⟨c2, rfl, hv3⟩, hb3⟩;have HB3 := hid (HB2.out.trans (hb3.mono HB2.out.size));have HX3 := hid (HV2.out.below hb3);have HK3 := hid (HK2.out.below hb3 HK2.out.lt);have HV3 := hid hv3;have HS3 : Hid ((Tryz.prog.info? 55).map (·.size) = some c2.size) := hid (by rw [hv3.size]; exact Ah);have HO3 := hid hv3.one;have HZ3 : Hid (zRm.size = c2.size) := hid (by rw [hv3.size]; rfl);clear hb3 hv3;have q1 : ((n : Int) == (n : Int)) = true := beq_self_eq_true _;have q2 : (er == er) = true := beq_self_eq_true _
  go_wp2_with (first
   | ((with_reducible refine AF rfl 55 _ _ rfl w3.heap.size c2 ?_ ?_ 55 _ (Blk.new w3 55 _) HS3.out ?_ HO3.out ?_); rfl; rfl; exact HZ3.out; intro w4 hk4 hs4 hbl4; have hz4 := ((Below.refl w3.heap.size w3).alloc (Nat.le_refl _) (.cells zRm 55)).trans (hbl4 w3.heap.size (Nat.le_refl _)); have HB4 := hid (HB3.out.trans (hz4.mono HB3.out.size)); have HX4 := hid (HX3.out.below hz4); have HV4 := hid (HV3.out.below hz4); have HK4 := hid (HK3.out.below hz4 HK3.out.lt); have HF4 := hid hk4; clear hk4 hbl4 hz4 hs4)
   | (refine B0 (by rfl) 55 _ rfl w3.heap.size rfl 55 c2 (0, 0) _ (by rfl) HF4.out Tryz.underlying55 HS3.out ?_)
   | (refine B0 (by rfl) 55 _ rfl w1.heap.size rfl 55 c1 (0, 0) _ (by rfl) HK4.out Tryz.underlying55 HS1.out ?_))
  refine (ME r c1 c2 w4 HX4.out HV4.out HC.out.2.1 HC.out.2.2.1 HC.out.2.2.2).mono ?_;rintro e w5 ⟨rfl, hb5⟩;have HB5 := hid (HB4.out.trans (hb5.mono HB4.out.size));have HX5 := hid (HX4.out.below hb5);have HK5 := hid (HK4.out.below hb5 HK4.out.lt);clear hb5;rcases HC.out.1 with ⟨rfl, rfl, hwr, hfi⟩ | ⟨rfl, hn, hnl⟩
  ·have HWR := hid hwr;have HFI := hid hfi;clear hwr hfi;go_wp2_with (refine wpList_load_row rfl 55 _ rfl w1.heap.size rfl 55 c1 (0, 0) _ HK5.out Tryz.underlying55 rfl HS1.out ?_);refine (PW r c1 w5 HX5.out HFI.out).mono ?_;rintro e w6 ⟨hwr, hb6⟩;have HB6 := hid (HB5.out.trans (hb6.mono HB5.out.size));obtain rfl : e = .returned (.tuple #[.string s, .int .i64 0]) := by
    rcases hwr with ⟨t, ht, rfl⟩ | ⟨hn, -⟩
    ·rw [HWR.out] at ht;injection ht with ht;rw [← ht, HTS.out]
    ·rw [HWR.out] at hn;cases hn
   clear hb6 hwr;go_wp2_with fail;refine (HLV.out _ (HRY.out.below HB6.out)).mono ?_;rintro e w7 ⟨rfl, hb7⟩;have HB7 := hid (HB6.out.trans (hb7.mono HB6.out.size));clear hb7;go_wp2_with fail;go_ret;exact ⟨rfl, HB7.out⟩
  ·have d1 : (0 : Int) < (n : Int) := by omega
   have d2 : (n : Int) ≤ (LS.length : Int) := by omega
   go_wp2_with fail;refine (HLN.out _ (HRY.out.below HB5.out)).mono ?_;rintro e w6 ⟨rfl, rfl⟩;have HB6 : Hid (Below w.heap.size w (w5.alloc (.cells (strL LS).toArray 9))) := hid (HB5.out.alloc HB5.out.size _);generalize hw6 : w5.alloc (.cells (strL LS).toArray 9) = w6 at *;go_wp2_with fail;refine (HLV.out _ (HRY.out.below HB6.out)).mono ?_;rintro e w7 ⟨rfl, hb7⟩;have HB7 := hid (HB6.out.trans (hb7.mono HB6.out.size));clear hb7;go_wp2_with fail;go_ret;exact ⟨rfl, HB7.out⟩
end Go.Proofs.YteadlcncnhbmjaaGreatDoor
