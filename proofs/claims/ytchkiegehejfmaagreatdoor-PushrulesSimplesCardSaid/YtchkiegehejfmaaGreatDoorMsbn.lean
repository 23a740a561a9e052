/- The texts Gx, Gy of this proof, one behind the other. -/
import Derived.Test.YtchkiegehejfmaaGreatDoorMsao
set_option linter.unusedSimpArgs false
set_option maxHeartbeats 16000000
set_option maxRecDepth 100000
set_option linter.unusedVariables false
namespace Pr
def dedF (unit : Cn) : List Cn → List Cn → List Cn
 | out, [] => out
 | out, x :: r => if same x unit = false ∧ out.any (fun y => same y x) = false then dedF unit (out ++ [x]) r else dedF unit out r
theorem DD (x : Cn) (l : List Cn) : l.any (fun y => same y x) = decide (x ∈ l) := by
 induction l with
 | nil => rfl
 | cons y r ih =>
  rw [List.any_cons, ih, BT];by_cases h : y = x
  ·subst h; simp
  ·have h2 : ¬ x = y := fun e => h e.symm
   simp [h, h2]
theorem BV (zero unit : Cn) : ∀ (l out : List Cn), gathF zero unit out l = if zero ∈ l then none else some (dedF unit out l)
 | [], out => by rw [gathF, dedF, if_neg (by simp)]
 | x :: r, out => by
  rw [gathF_step, dedF];by_cases h1 : x = zero
  ·subst h1;rw [if_pos (same_self x), if_pos (List.mem_cons_self ..)]
  ·have h2 : same x zero = false := by rw [BT]; exact decide_eq_false h1
   have h3 : (zero ∈ x :: r) ↔ zero ∈ r := by
    rw [List.mem_cons];exact ⟨fun h => h.resolve_left (fun e => h1 e.symm), .inr⟩
   have h4 : (out.any fun y => same x y) = out.any (fun y => same y x) := by rw [Ev, DD]
   rw [h2, if_neg (by decide), h4, BV zero unit r, BV zero unit r];by_cases h5 : zero ∈ r
   ·rw [if_pos h5, if_pos h5, if_pos (h3.2 h5)];split <;> rfl
   ·rw [if_neg h5, if_neg h5, if_neg (fun h => h5 (h3.1 h))];split <;> rfl
theorem gath_two (op : Int) (l : List Cn) (zero unit : Cn) : gath op l zero unit = if l.any (fun y => same y zero) = true then zero else gFin op unit (dedF unit [] l) := by
 rw [DD];by_cases h : zero ∈ l
 ·rw [if_pos (decide_eq_true h)];unfold gath;rw [BV, if_pos h]
 ·rw [decide_eq_false h, if_neg (by decide)];exact gath_some op l zero unit _ (by rw [BV, if_neg h])
theorem dedF_step {unit x : Cn} {out l : List Cn} {k : Nat} (h : l[k]? = some x) : dedF unit out (l.drop k) = if same x unit = false ∧ out.any (fun y => same y x) = false then dedF unit (out ++ [x]) (l.drop (k + 1)) else dedF unit out (l.drop (k + 1)) := by
 obtain ⟨h1, h2⟩ := List.getElem?_eq_some_iff.1 h;rw [List.drop_eq_getElem_cons h1, h2, dedF]
theorem take_noC {p : Cn → Bool} {L : List Cn} {k : Nat} {y : Cn} (h : ∀ z ∈ L.take k, p z = false) (hy : L[k]? = some y) (hn : p y = false) : ∀ z ∈ L.take (k + 1), p z = false := fun z hz => by
 obtain ⟨h1, h2⟩ := List.getElem?_eq_some_iff.1 hy;rw [List.take_succ_eq_append_getElem h1, h2] at hz;rcases List.mem_append.1 hz with hz | hz
 ·exact h z hz
 ·rw [List.mem_singleton.1 hz]; exact hn
end Pr
namespace Go.Proofs.YtchkiegehejfmaaGreatDoor
open Go.RowKit Go.Lib
theorem Bc (w : World) : Calls Tryz.prog 45 #[] w fun e w' => (∃ X, e = .returned (.agg X) ∧ CnV w' (fun b => w.heap.size ≤ b) X Pr.never) ∧ Below w.heap.size w w' := by
 go_enter Tryz.func45, Tryz.ntmps45;go_wp2_with fail;have hk0 := (Blk.new w 36 #[.int .i64 4, .string ⟨#[]⟩, .int .i64 0, .slice (some ⟨w.heap.size + 1, 0, none⟩) 1 1]).alloc (.cells #[.int .i64 1, .string ⟨#[]⟩, .int .i64 0, .slice none 0 0] 36);have hk1 := Blk.new (w.alloc (.cells #[.int .i64 4, .string ⟨#[]⟩, .int .i64 0, .slice (some ⟨w.heap.size + 1, 0, none⟩) 1 1] 36)) 36 #[.int .i64 1, .string ⟨#[]⟩, .int .i64 0, .slice none 0 0];rw [World.size_alloc] at hk1;exact bodyPost_ret (v := .agg #[.int .i64 4, .string ⟨#[]⟩, .int .i64 0, .slice (some ⟨w.heap.size + 1, 0, none⟩) 1 1]) (results_cell_row rfl _ _ w.heap.size 36 _ (0, 0) _ rfl hk0 Tryz.underlying36 rfl (by rw [Aa]; rfl)) rfl ⟨⟨_, rfl, EP hk1 (Nat.le_succ _)⟩, ((Below.refl _ w).alloc (Nat.le_refl _) _).alloc (by rw [World.size_alloc]; exact Nat.le_succ _) _⟩
theorem Di (ok ok' : Nat → Prop) (x : Pr.Cn) (X : Array Value) (l : List Pr.Cn) (A : Option Addr) (cap : Nat) (w : World) (hn : l.length ≤ 1000000) (hr : CnRow w ok A l) (hx : CnV w ok' X x) (hnl : ∀ y ∈ l, Pr.nodes y ≤ 1000000) :
  Calls Tryz.prog 85 #[.slice A l.length cap, .agg X] w fun e w' => e = .returned (.bool (l.any fun y => Pr.same y x)) ∧ Below w.heap.size w w' := by
 have hb1 := (Below.refl w.heap.size w).alloc (Nat.le_refl _) (.cells X 36);have HB1 := hid hb1;have HR := hid (hr.below hb1);have HX := hid (hx.bel hb1);have HKX := hid (Blk.new w 36 X);have HN := hid hnl;have HSX : Hid ((Tryz.prog.info? 36).map (·.size) = some X.size) := hid (by rw [Aa, hx.size]);have HT : Hid (∀ y ∈ l, Pr.same y x = true → (l.any fun y => Pr.same y x) = true) := hid (fun y hy h => List.any_eq_true.2 ⟨y, hy, h⟩);have HF : Hid ((∀ y ∈ l, Pr.same y x = false) → (l.any fun y => Pr.same y x) = false) := hid (fun h => List.any_eq_false.2 (fun y hy => by rw [h y hy]; decide));generalize (l.any fun y => Pr.same y x) = Z at *;clear hr hx hb1 hnl;generalize hw1 : w.alloc (.cells X 36) = w1 at *;go_enter Tryz.func85, Tryz.ntmps85;go_wp2_with fail
 go_loopw [5] (fun ix wr => ∃ k : Nat, k ≤ l.length ∧ ix = .int .i64 (k : Int) ∧ Below w1.heap.size w1 wr ∧ ∀ z ∈ l.take k, Pr.same z x = false) (fun ix _ => l.length - (RowKit.intOf ix).toNat)
 case atStart => exact ⟨0, Nat.zero_le _, rfl, Below.refl _ _, fun z hz => by simp at hz⟩
 case round =>
  obtain ⟨k, hk, rfl, hb, hall⟩ := hrel;have HB := hid hb;have HALL := hid hall;have hws := hb.size;clear hb hall;by_cases hlt : k < l.length
  ·obtain ⟨y, hy⟩ : ∃ y, l[k]? = some y := ⟨_, List.getElem?_eq_getElem hlt⟩;obtain ⟨b, off, cs, rfl, hok, hr, hcl, hcv⟩ := (HR.out.below HB.out) k y hy;have hny := HN.out y (List.mem_of_getElem? hy);have HTY := hid (HT.out y (List.mem_of_getElem? hy));have HFY := hid (fun h => Pr.take_noC (p := fun z => Pr.same z x) HALL.out hy h);have HCV := hid hcv;have HL2 : Hid ((Tryz.prog.info? 36).map (·.size) = some cs.length) := hid (by rw [Aa, hcl]);have hkI : (k : Int) < (l.length : Int) := by omega
   have HS : Hid (wr.rangeAt b (off + k * 4) cs ∧ Blk wr w.heap.size 36 X) := hid ⟨hr, HKX.out.below HB.out HKX.out.lt⟩;have hbl := AL hr (by omega);clear hy hcv hr;go_wp2_with fail;refine wp_region_noPanic ?_;refine wp_region_held_drew (S := fun W => W.rangeAt b (off + k * 4) cs ∧ Blk W w.heap.size 36 X) (by kernel_rfl) (HS.out) (fun hHeld => ?_);refine wpAnyH_take (i := 0) (oi := _) (v := ?_) rfl (by kernel_rfl) (by kernel_rfl) (by kernel_rfl) (fun _ _ _ h => h) (Or.inl ⟨by kernel_rfl, ?_⟩) hHeld ?_;rotate_left
   ·intro wq hSw;go_simp
    (try with_reducible rfl)
   (try simp only [Act.put, pk1, pk2, pk3, pk4, pk5, pk6])
   refine wpAnyH_take (i := 1) (oi := _) (v := ?_) rfl (by kernel_rfl) (by kernel_rfl) (by kernel_rfl) (fun _ _ _ h => h) (Or.inl ⟨by kernel_rfl, ?_⟩) hHeld ?_;rotate_left
   ·intro wq hSw;go_simp
    (try with_reducible rfl)
   (try simp only [Act.put, pk1, pk2, pk3, pk4, pk5, pk6])
   refine wpAnyH_take (i := 2) (oi := _) (v := ?_) rfl (by kernel_rfl) (by kernel_rfl) (by kernel_rfl) (fun _ _ _ h => h) (Or.inl ⟨by kernel_rfl, ?_⟩) hHeld ?_;rotate_left
   ·intro wq hSw;go_simp
    (try with_reducible rfl)
   (try simp only [Act.put, pk1, pk2, pk3, pk4, pk5, pk6])
   refine wpAnyH_take (i := 3) (oi := _) (v := _) rfl (by kernel_rfl) (by kernel_rfl) (by kernel_rfl) (fun _ _ _ h => h) (AI rfl Tryz.underlying36 HL2.out (fun W h => h.1) (by kernel_rfl) _ rfl rfl) hHeld ?_
   (try simp only [Act.put, pk1, pk2, pk3, pk4, pk5, pk6])
   refine wpAnyH_take (i := 4) (oi := _) (v := _) rfl (by kernel_rfl) (by kernel_rfl) (by kernel_rfl) (fun _ _ _ h => h) (Ao (X := X) rfl Tryz.underlying36 HSX.out (fun W h => h.2) (by kernel_rfl) _ rfl rfl) hHeld ?_
   (try simp only [Act.put, pk1, pk2, pk3, pk4, pk5, pk6])
   refine wpAnyH_ready (rs := [5]) (by kernel_rfl) (by simp) ?_;refine AllReadyH.cons (o := _) rfl (fun K hK => ?_) AllReadyH.nil;go_simp
   go_at_call 17
   refine (Bn (Pr.nodes y) ok ok' y x cs.toArray X wr.drew (Nat.le_refl _) (by omega) (HCV.out.bel (Below.refl _ _).drew) (HX.out.bel (HB.out.drew))).mono ?_;rintro e w4 ⟨rfl, hb4⟩;have hn4 : Below wr.heap.size wr w4 := (Below.refl wr.heap.size wr).drew.trans hb4;have HB4 := hid (HB.out.trans (hn4.mono hws));refine hK.out _ _ (⟨Aw HS.out.1 (hn4.block _ hbl), HS.out.2.below hn4 HS.out.2.lt⟩) (fun hHeld2 => ?_);clear hK K hHeld;have hHeld := hHeld2;clear hHeld2
   (try simp only [Act.put, pk1, pk2, pk3, pk4, pk5, pk6])
   refine wpAnyH_done (by kernel_rfl) ?_ _;refine NoPanic.normal ?_
   cases hsm : Pr.same y x with
   | true =>
    have HZ := hid (HTY.out hsm);clear hsm;go_wp2_with fail;go_ret;exact ⟨congrArg (fun z => Ending.returned (.bool z)) HZ.out.symm, HB1.out.trans (HB4.out.mono HB1.out.size)⟩
   | false =>
    have HZ := hid (HFY.out hsm);clear hsm;go_wp2_with fail
    go_roundw
    case rel => exact ⟨k + 1, hlt, by go_num, HB4.out, HZ.out⟩
    case measure => simp [RowKit.intOf]; omega
  ·obtain rfl : k = l.length := by omega
   have HZ := hid (HF.out (fun z hz => HALL.out z (by rw [List.take_length]; exact hz)));go_wp2_with fail;go_ret;exact ⟨congrArg (fun z => Ending.returned (.bool z)) HZ.out.symm, HB1.out.trans (HB.out.mono HB1.out.size)⟩
def BA (m : Nat) : Prop := ∀ (ok : Nat → Prop) (c : Pr.Cn) (V : Array Value) (w : World), Pr.nodes c ≤ m → CnV w ok V c → Calls Tryz.prog 16 #[.agg V] w fun e w' => (∃ X, e = .returned (.agg X) ∧ CnV w' (fun b => w.heap.size ≤ b) X (Pr.simple c)) ∧ Below w.heap.size w w'
theorem Bj (m : Nat) (HSI : BA m) (ok okz oku : Nat → Prop) (op : Int) (ks : List Pr.Cn) (A : Option Addr) (cap : Nat) (zero unit : Pr.Cn) (Z U : Array Value) (w : World) (hm : Pr.nodesL ks ≤ m) (hm6 : m ≤ 100000) (hr : CnRow w ok A ks)
  (hz : CnV w okz Z zero) (hu : CnV w oku U unit) (hnz : Pr.nodes zero ≤ 10) (hnu : Pr.nodes unit ≤ 10) :
  Calls Tryz.prog 44 #[.int .i64 op, .slice A ks.length cap, .agg Z, .agg U] w fun e w' => (∃ X, e = .returned (.agg X) ∧ CnV w' (fun b => okz b ∨ oku b ∨ w.heap.size ≤ b) X (Pr.gath op (Pr.flat op ks) zero unit)) ∧ Below w.heap.size w w' := by
 have hb3 := (((Below.refl w.heap.size w).alloc (Nat.le_refl _) (.cells Z 36)).alloc (by rw [World.size_alloc]; exact Nat.le_succ _) (.cells U 36)).alloc (by rw [World.size_alloc, World.size_alloc]; omega) (.cells zCn 36);have hsz : (((w.alloc (.cells Z 36)).alloc (.cells U 36)).alloc (.cells zCn 36)).heap.size = w.heap.size + 3 := by rw [World.size_alloc, World.size_alloc, World.size_alloc]
 have hkz : Blk (((w.alloc (.cells Z 36)).alloc (.cells U 36)).alloc (.cells zCn 36)) w.heap.size 36 Z := ((Blk.new w 36 Z).alloc _).alloc _;have hku : Blk (((w.alloc (.cells Z 36)).alloc (.cells U 36)).alloc (.cells zCn 36)) (w.heap.size + 1) 36 U := by have := (Blk.new (w.alloc (.cells Z 36)) 36 U).alloc (.cells zCn 36); rw [World.size_alloc] at this; exact this
 have hkr : Blk (((w.alloc (.cells Z 36)).alloc (.cells U 36)).alloc (.cells zCn 36)) (w.heap.size + 2) 36 zCn := by have := Blk.new ((w.alloc (.cells Z 36)).alloc (.cells U 36)) 36 zCn; rw [World.size_alloc, World.size_alloc] at this; exact this
 have HSZ1 : Hid ((Tryz.prog.info? 36).map (·.size) = some Z.size) := hid (by rw [Aa, hz.size]);have HSU1 : Hid ((Tryz.prog.info? 36).map (·.size) = some U.size) := hid (by rw [Aa, hu.size]);have HOZ : Hid (zCn.size = Z.size) := hid (by rw [hz.size]; rfl);have HOU : Hid (zCn.size = U.size) := hid (by rw [hu.size]; rfl);have HZ := hid hz;have HU := hid hu;have HB1 := hid hb3;have HSZ := hid hsz;have HKZ := hid hkz;have HKU := hid hku;have HKR := hid hkr;have HR1 := hid (hr.below hb3);have hfn := Pr.flat_nodes op ks;have hfl := Pr.kids_nodes (Pr.flat op ks);have HFM : Hid (∀ c ∈ Pr.flat op ks, Pr.nodes c ≤ 200000) := hid (fun c hc => by have := Pr.nodes_mem hc; omega);have HF6 : Hid ((Pr.flat op ks).length ≤ 200000) := hid (by omega);clear hr hz hu hb3 hsz hkz hku hkr hfn hfl;generalize hw1 : ((w.alloc (.cells Z 36)).alloc (.cells U 36)).alloc (.cells zCn 36) = w1 at *;have hkl := Pr.kids_nodes ks
 have HFN : Hid (∀ k, (Pr.flat op (ks.take k)).length ≤ 2000000) := hid (fun k => by
  have h1 := Pr.kids_nodes (Pr.flat op (ks.take k));have h2 := Pr.flat_nodes op (ks.take k);have h3 := Pr.nodesL_le ks k
  omega)
 have HI := hid HSI;clear HSI;go_enter Tryz.func44, Tryz.ntmps44;go_wp2_with fail;clear hw1
 go_loopw [9, 10] (fun out ix wr => ∃ k : Nat, k ≤ ks.length ∧ ix = .int .i64 (k : Int) ∧ CnO wr w1.heap.size (fun b => w1.heap.size ≤ b) out (Pr.flat op (ks.take k)) ∧ Below w1.heap.size w1 wr) (fun _ ix _ => ks.length - (RowKit.intOf ix).toNat)
 case atStart => exact ⟨0, Nat.zero_le _, rfl, CnO.nil, Below.refl _ _⟩
 case round =>
  obtain ⟨k, hk, rfl, ho, hb⟩ := hrel;have HO := hid ho;have HB := hid hb;have hws := hb.size;clear ho hb;by_cases hlt : k < ks.length
  ·obtain ⟨x, hx⟩ : ∃ x, ks[k]? = some x := ⟨_, List.getElem?_eq_getElem hlt⟩;obtain ⟨b, off, cs, rfl, hok, hr, hcl, hcv⟩ := (HR1.out.below HB.out) k x hx;have HXK := hid hx;have hnk := Pr.nodes_kid hx;have HFA := hid (Ft op hx);have hf1 := HFN.out (k + 1);have HCV := hid hcv;have hone := hcv.one;have HL2 : Hid ((Tryz.prog.info? 36).map (·.size) = some cs.length) := hid (by rw [Aa, hcl]);obtain ⟨A0, c0, rfl, hc0⟩ := HO.out.len;clear hx hcv;have HBR : Hid (Below wr.heap.size wr wr) := hid (Below.refl _ _);go_wp2_with ((with_reducible refine wpList_load_mid rfl 36 _ rfl b (off + k * 4) ?_ cs _ hr Tryz.underlying36 ?_ HL2.out ?_); rfl; rfl);refine (HI.out ok x cs.toArray wr (by omega) (HCV.out.bel HBR.out)).mono ?_;rintro e w4 ⟨⟨X, rfl, hx4⟩, hb4⟩;have HB34 : Hid (Below wr.heap.size wr w4) := hid (HBR.out.trans (hb4.mono HBR.out.size));have HB4 := hid (HB.out.trans (HB34.out.mono hws));have hw4 := HB4.out.size;have HO4 := hid (HO.out.bel HB34.out);have HX4 : Hid (CnV w4 (fun b => wr.heap.size ≤ b) X (Pr.simple x)) := hid (hx4.keep fun b hb _ => ⟨Nat.le_trans HBR.out.size hb, rfl⟩);clear hx4 hb4;generalize Pr.simple x = y at *;generalize Pr.flat op (ks.take k) = F at *;rw [HFA.out] at hf1;obtain ⟨A', c', rfl, hry⟩ := HX4.out.open;have HRY := hid hry;have hbx := (Below.refl w4.heap.size w4).alloc (Nat.le_refl _) (.cells #[.int .i64 y.op, .string (bstr y.text), .int .i64 y.num, .slice A' y.kids.length c'] 36);have HO5 := hid (HO4.out.bel hbx);have HB5 := hid (HB4.out.alloc hw4 (.cells #[.int .i64 y.op, .string (bstr y.text), .int .i64 y.num, .slice A' y.kids.length c'] 36));have HX5 := hid (HX4.out.bel hbx);have HR5 := hid (hry.below hbx);have HK5 := hid (Blk.new w4 36 #[.int .i64 y.op, .string (bstr y.text), .int .i64 y.num, .slice A' y.kids.length c']);have HS5 : Hid ((Tryz.prog.info? 36).map (·.size) = some (#[.int .i64 y.op, .string (bstr y.text), .int .i64 y.num, .slice A' y.kids.length c'] : Array Value).size) := hid (by rw [Aa]; rfl);have hout4 : ∀ q, (Value.slice A0 F.length c0).ownBlock = some q → q < wr.heap.size := by
    intro q hq;obtain ⟨xs, h1, _⟩ := HO.out;exact (h1.lt q hq).2
   clear hry hbx;have hw5 : w1.heap.size ≤ (w4.alloc (.cells #[.int .i64 y.op, .string (bstr y.text), .int .i64 y.num, .slice A' y.kids.length c'] 36)).heap.size := HB5.out.size;by_cases hyo : y.op = op
   ·have hsp : Pr.spread op y = y.kids := by unfold Pr.spread; rw [if_pos hyo]
    have hyb : (y.op == op) = true := beq_iff_eq.2 hyo;rw [hsp] at HFA hf1;rw [List.length_append] at hf1;have hlen : F.length + y.kids.length ≤ 100000000000 := by omega
    obtain ⟨xs, hown, hcs⟩ := HO5.out;obtain ⟨ys, hrd, hone2, hcs2⟩ := HR5.out.rd;have HCS := hid hcs;have HCS2 : Hid (CnsV (w4.alloc (.cells #[.int .i64 y.op, .string (bstr y.text), .int .i64 y.num, .slice A' y.kids.length c'] 36)) (fun b => w1.heap.size ≤ b ∧ some b ≠ (Value.slice A0 F.length c0).ownBlock) ys y.kids) := hid (CnsV.keep hcs2 fun b hb _ => ⟨⟨Nat.le_trans hws hb, fun e => by have := hout4 b e.symm; omega⟩, rfl⟩);clear hcs hcs2 hyo hsp;go_wp2_with ((refine AC rowCn rfl _ _ rfl _ (.slice A0 F.length c0) _ xs ys w1.heap.size rfl hown A' _ _ rfl hrd hone2 hw5 hlen ?_); intro v6 w6 ho6 hg6 hb6 hwh6)
    go_roundw
    case rel => exact ⟨k + 1, hlt, by go_num, by rw [HFA.out]; exact CnO.app hown HCS.out HCS2.out ho6 hg6 hwh6, hb6 _ HB5.out⟩
    case measure => simp [RowKit.intOf]; omega
   ·have hsp : Pr.spread op y = [y] := by unfold Pr.spread; rw [if_neg hyo]
    have hyb : (y.op == op) = false := beq_eq_false_iff_ne.2 hyo;rw [hsp] at HFA hf1;rw [List.length_append] at hf1;have hlen : F.length + 1 ≤ 100000000000 := by simp at hf1; omega
    have hbz := (Below.refl (w4.alloc (.cells #[.int .i64 y.op, .string (bstr y.text), .int .i64 y.num, .slice A' y.kids.length c'] 36)).heap.size (w4.alloc (.cells #[.int .i64 y.op, .string (bstr y.text), .int .i64 y.num, .slice A' y.kids.length c'] 36))).alloc (Nat.le_refl _) (.cells #[.int .i64 y.op, .string (bstr y.text), .int .i64 y.num, .slice A' y.kids.length c'] 36);obtain ⟨xs, hown, hcs⟩ := HO5.out.bel hbz;have HCS := hid hcs;have HCS2 := hid (CnsV.one ((HX5.out.bel hbz).keep (ok' := fun b => w1.heap.size ≤ b ∧ some b ≠ (Value.slice A0 F.length c0).ownBlock) fun b hb _ => ⟨⟨Nat.le_trans hws hb, fun e => by have := hout4 b e.symm; omega⟩, rfl⟩));have hrd : Rd ((w4.alloc (.cells #[.int .i64 y.op, .string (bstr y.text), .int .i64 y.num, .slice A' y.kids.length c'] 36)).alloc (.cells #[.int .i64 y.op, .string (bstr y.text), .int .i64 y.num, .slice A' y.kids.length c'] 36)) (some ⟨w4.heap.size + 1, 0, none⟩) (1 * 4) [.int .i64 y.op, .string (bstr y.text), .int .i64 y.num, .slice A' y.kids.length c'] := by
     have := Rd.of_blk (vs := [.int .i64 y.op, .string (bstr y.text), .int .i64 y.num, .slice A' y.kids.length c']) (Blk.new (w4.alloc (.cells #[.int .i64 y.op, .string (bstr y.text), .int .i64 y.num, .slice A' y.kids.length c'] 36)) 36 #[.int .i64 y.op, .string (bstr y.text), .int .i64 y.num, .slice A' y.kids.length c']);rw [World.size_alloc] at this;exact this
    have hw6 : w1.heap.size ≤ ((w4.alloc (.cells #[.int .i64 y.op, .string (bstr y.text), .int .i64 y.num, .slice A' y.kids.length c'] 36)).alloc (.cells #[.int .i64 y.op, .string (bstr y.text), .int .i64 y.num, .slice A' y.kids.length c'] 36)).heap.size := by rw [World.size_alloc]; omega
    have HB6 := hid (HB5.out.alloc hw5 (.cells #[.int .i64 y.op, .string (bstr y.text), .int .i64 y.num, .slice A' y.kids.length c'] 36));have hone2 : ∀ u ∈ ([.int .i64 y.op, .string (bstr y.text), .int .i64 y.num, .slice A' y.kids.length c'] : List Value), u.oneCell' = true := by intro u hu; simp at hu; rcases hu with rfl | rfl | rfl | rfl <;> rfl
    clear hcs hyo hsp hbz
    go_wp2_with (first
     | (refine Ac (by rfl) 36 _ rfl w4.heap.size rfl 36 _ (0, 0) _ rfl HK5.out Tryz.underlying36 HS5.out ?_)
     | ((refine AC rowCn rfl _ _ rfl _ (.slice A0 F.length c0) _ xs _ w1.heap.size rfl hown _ 1 1 rfl hrd hone2 hw6 hlen ?_); intro v6 w6 ho6 hg6 hb6 hwh6))
    go_roundw
    case rel => exact ⟨k + 1, hlt, by go_num, by rw [HFA.out]; exact CnO.app hown HCS.out HCS2.out ho6 hg6 hwh6, hb6 _ HB6.out⟩
    case measure => simp [RowKit.intOf]; omega
  ·obtain rfl : k = ks.length := by omega
   rw [List.take_length] at HO;obtain ⟨wf, rfl⟩ : ∃ wf, wf = wr := ⟨_, rfl⟩;obtain ⟨B, cap', rfl, hcap, hrowf⟩ := HO.out.row (ok' := fun b => w1.heap.size ≤ b) (fun b h => h) (fun q hq => by obtain ⟨xs, h1, _⟩ := HO.out; exact (h1.lt q hq).1);have HROWf := hid hrowf;have HBf := hid (HB1.out.trans (HB.out.mono HB1.out.size));have HKZf := hid (HKZ.out.below HB.out HKZ.out.lt);have HKUf := hid (HKU.out.below HB.out HKU.out.lt);have HKRf := hid (HKR.out.below HB.out HKR.out.lt);have hs12f : w.heap.size + 3 ≤ wf.heap.size := by have := HSZ.out; omega
   clear hrowf;obtain ⟨F, hF⟩ : ∃ F, Pr.flat op ks = F := ⟨_, rfl⟩;have HFE := hid hF;rw [hF] at HROWf HFM HF6 hcap ⊢;have HGT := hid (Pr.gath_two op F zero unit);have hF6 := HF6.out;have HHZ0 := Di _ okz zero Z F B cap' wf (by omega) HROWf.out (HZ.out.bel HBf.out) (fun y hy => by have := HFM.out y hy; omega);clear hF HKZ HKU HKR HR1 HO
   cases hzf : (F.any fun y => Pr.same y zero) with
   | true =>
    have HFIN : Hid (Pr.gath op F zero unit = zero) := hid (by rw [HGT.out, hzf, if_pos rfl]);have hZ1 := HZ.out.one;rw [hzf] at HHZ0;have HHZ := hid HHZ0;clear HHZ0 hzf HGT
    go_wp2_with (first
     | (refine Ac (by rfl) 36 _ rfl w.heap.size rfl 36 _ (0, 0) _ rfl HKZf.out Tryz.underlying36 HSZ1.out ?_)
     | (go_at_call 85; refine HHZ.out.mono ?_; rintro e w2 ⟨rfl, hb2⟩; have HB2 := hid (HBf.out.trans (hb2.mono HBf.out.size)); have HKZ2 := hid (HKZf.out.below hb2 HKZf.out.lt); have HKR2 := hid (HKRf.out.below hb2 HKRf.out.lt); have hs12' : w.heap.size + 3 ≤ w2.heap.size := (by have := hb2.size; omega); clear hb2)
     | (refine Ac (by rfl) 36 _ rfl w.heap.size rfl 36 _ (0, 0) _ rfl HKZ2.out Tryz.underlying36 HSZ1.out ?_)
     | ((with_reducible refine Ab rfl 36 _ _ rfl (w.heap.size + 2) Z ?_ ?_ 36 _ HKR2.out HSZ1.out HOZ.out hZ1 ?_); rfl; rfl; intro w9 hk9 hs9 hbl9 hoth9))
    have HB9 : Hid (Below w.heap.size w w9) := hid (HB2.out.trans (hbl9 w.heap.size (by omega)));exact bodyPost_ret (v := .agg Z) (results_cell_row rfl _ _ (w.heap.size + 2) 36 _ (0, 0) _ rfl hk9 Tryz.underlying36 rfl HSZ1.out) rfl ⟨⟨_, rfl, by rw [HFE.out, HFIN.out]; exact HZ.out.keep fun b hb hl => ⟨.inl hb, HB9.out.block b hl⟩⟩, HB9.out⟩
   | false =>
    have HGD : Hid (Pr.gath op F zero unit = Pr.gFin op unit (Pr.dedF unit [] F)) := hid (by rw [HGT.out, hzf, if_neg (by decide)]);rw [hzf] at HHZ0;have HHZ := hid HHZ0;clear HHZ0 hzf HGT
    go_wp2_with (first
     | (refine Ac (by rfl) 36 _ rfl w.heap.size rfl 36 _ (0, 0) _ rfl HKZf.out Tryz.underlying36 HSZ1.out ?_)
     | (go_at_call 85; refine HHZ.out.mono ?_; rintro e w2 ⟨rfl, hb2⟩))
    have HROW := hid (HROWf.out.below hb2);have HB2 := hid (HBf.out.trans (hb2.mono HBf.out.size));have HKZ2 := hid (HKZf.out.below hb2 HKZf.out.lt);have HKU2 := hid (HKUf.out.below hb2 HKUf.out.lt);have HKR2 := hid (HKRf.out.below hb2 HKRf.out.lt);have hs12' : w.heap.size + 3 ≤ w2.heap.size := by have := hb2.size; omega
    have hs12 : w1.heap.size ≤ w2.heap.size := by have := hb2.size; omega
    clear hb2 HROWf HBf HKZf HKUf HKRf;obtain ⟨wg, rfl⟩ : ∃ wg, wg = w2 := ⟨_, rfl⟩
    go_loopw [12, 13] (fun out ix wr => ∃ (k : Nat) (G : List Pr.Cn), k ≤ F.length ∧ ix = .int .i64 (k : Int) ∧ Pr.dedF unit [] F = Pr.dedF unit G (F.drop k) ∧ G.length ≤ k ∧ (∀ c ∈ G, c ∈ F) ∧ CnO wr wg.heap.size (fun b => w1.heap.size ≤ b) out G ∧ Below wg.heap.size wg wr) (fun _ ix _ => F.length - (RowKit.intOf ix).toNat)
    case atStart => exact ⟨0, [], Nat.zero_le _, rfl, rfl, Nat.le_refl _, (fun c h => by cases h), CnO.nil, Below.refl _ _⟩
    case round =>
     obtain ⟨k, G, hk, rfl, hg, hgl, hgm, ho, hb⟩ := hrel;have HG := hid hg;have HGM := hid hgm;have HO := hid ho;have HB := hid hb;have hws := hb.size;have HKZ := hid (HKZ2.out.below hb HKZ2.out.lt);have HKU := hid (HKU2.out.below hb HKU2.out.lt);have HKR := hid (HKR2.out.below hb HKR2.out.lt);have HUr := hid (HU.out.bel (HB2.out.trans (hb.mono HB2.out.size)));have HBr := hid (HB2.out.trans (hb.mono HB2.out.size));obtain ⟨A0, c0, rfl, hc0⟩ := HO.out.len;have hownlt : ∀ q, (Value.slice A0 G.length c0).ownBlock = some q → wg.heap.size ≤ q ∧ q < wr.heap.size := by
      intro q hq;obtain ⟨xs, h1, _⟩ := HO.out;exact h1.lt q hq
     clear ho hb hg hgm;by_cases hlt : k < F.length
     ·obtain ⟨x, hx⟩ : ∃ x, F[k]? = some x := ⟨_, List.getElem?_eq_getElem hlt⟩;obtain ⟨b, off, cs, rfl, hok, hr2, hcl, hcv⟩ := HROW.out k x hx;have hr : wr.rangeAt b (off + k * 4) cs := Aw hr2 (HB.out.block _ (AL hr2 (by omega)));have HCV : Hid (CnV wr (fun b => w1.heap.size ≤ b ∧ b < wg.heap.size) cs.toArray x) := hid (hcv.keep fun b hb hl => ⟨⟨hb, hl⟩, HB.out.block b hl⟩);have HST := hid (Pr.dedF_step (unit := unit) (out := G) hx);have HXM := hid (List.mem_of_getElem? hx);have hnx := HFM.out x (List.mem_of_getElem? hx);obtain ⟨A', c', hcse, -⟩ := HCV.out.open;have hcse2 : cs = [.int .i64 x.op, .string (bstr x.text), .int .i64 x.num, .slice A' x.kids.length c'] := by have := congrArg Array.toList hcse; simpa using this
      subst hcse2;have HL2 : Hid ((Tryz.prog.info? 36).map (·.size) = some ([.int .i64 x.op, .string (bstr x.text), .int .i64 x.num, .slice A' x.kids.length c'] : List Value).length) := hid (by rw [Aa]; rfl);have hkI : (k : Int) < (F.length : Int) := by omega
      have hbl := AL hr (by omega);have HS : Hid (wr.rangeAt b (off + k * 4) [.int .i64 x.op, .string (bstr x.text), .int .i64 x.num, .slice A' x.kids.length c'] ∧ Blk wr (w.heap.size + 1) 36 U) := hid ⟨hr, HKU.out⟩;obtain ⟨A1, c1, e1, hc1, hrowG⟩ := HO.out.row (ok' := fun b => w1.heap.size ≤ b) (fun b h => h) (fun q hq => by have := hownlt q hq; omega);injection e1 with e1 e2 e3;subst e1 e3;have HRG := hid hrowG;have HSU := Bn (Pr.nodes x) _ oku x unit #[.int .i64 x.op, .string (bstr x.text), .int .i64 x.num, .slice A' x.kids.length c'] U wr.drew (Nat.le_refl _) (by omega) (HCV.out.bel (Below.refl _ _).drew) (HUr.out.bel (Below.refl _ _).drew);clear hx hcv hcse hr2 hr hrowG e2
      cases hsu : Pr.same x unit with
      | true =>
       rw [hsu] at HSU;have HSM := hid HSU;have HG2 : Hid (Pr.dedF unit [] F = Pr.dedF unit G (F.drop (k + 1))) := hid (by rw [HG.out, HST.out, hsu, if_neg (by simp)]);clear hsu HSU;go_wp2_with fail;refine wp_region_noPanic ?_;refine wp_region_held_drew (S := fun W => W.rangeAt b (off + k * 4) [.int .i64 x.op, .string (bstr x.text), .int .i64 x.num, .slice A' x.kids.length c'] ∧ Blk W (w.heap.size + 1) 36 U) (by kernel_rfl) (HS.out) (fun hHeld => ?_);refine wpAnyH_take (i := 0) (oi := _) (v := ?_) rfl (by kernel_rfl) (by kernel_rfl) (by kernel_rfl) (fun _ _ _ h => h) (Or.inl ⟨by kernel_rfl, ?_⟩) hHeld ?_;rotate_left
       ·intro wq hSw;go_simp
        (try with_reducible rfl)
       (try simp only [Act.put, pk1, pk2, pk3, pk4, pk5, pk6])
       refine wpAnyH_take (i := 1) (oi := _) (v := ?_) rfl (by kernel_rfl) (by kernel_rfl) (by kernel_rfl) (fun _ _ _ h => h) (Or.inl ⟨by kernel_rfl, ?_⟩) hHeld ?_;rotate_left
       ·intro wq hSw;go_simp
        (try with_reducible rfl)
       (try simp only [Act.put, pk1, pk2, pk3, pk4, pk5, pk6])
       refine wpAnyH_take (i := 2) (oi := _) (v := ?_) rfl (by kernel_rfl) (by kernel_rfl) (by kernel_rfl) (fun _ _ _ h => h) (Or.inl ⟨by kernel_rfl, ?_⟩) hHeld ?_;rotate_left
       ·intro wq hSw;go_simp
        (try with_reducible rfl)
       (try simp only [Act.put, pk1, pk2, pk3, pk4, pk5, pk6])
       refine wpAnyH_take (i := 3) (oi := _) (v := _) rfl (by kernel_rfl) (by kernel_rfl) (by kernel_rfl) (fun _ _ _ h => h) (AI rfl Tryz.underlying36 HL2.out (fun W h => h.1) (by kernel_rfl) _ rfl rfl) hHeld ?_
       (try simp only [Act.put, pk1, pk2, pk3, pk4, pk5, pk6])
       refine wpAnyH_take (i := 4) (oi := _) (v := _) rfl (by kernel_rfl) (by kernel_rfl) (by kernel_rfl) (fun _ _ _ h => h) (Ao (X := U) rfl Tryz.underlying36 HSU1.out (fun W h => h.2) (by kernel_rfl) _ rfl rfl) hHeld ?_
       (try simp only [Act.put, pk1, pk2, pk3, pk4, pk5, pk6])
       refine wpAnyH_ready (rs := [5]) (by kernel_rfl) (by simp) ?_;refine AllReadyH.cons (o := _) rfl (fun K hK => ?_) AllReadyH.nil;go_simp
       go_at_call 17
       refine HSM.out.mono ?_;rintro e w4 ⟨rfl, hb4⟩;have hn4 : Below wr.heap.size wr w4 := (Below.refl wr.heap.size wr).drew.trans hb4;have HN4 := hid hn4;have HB4 := hid (HB.out.trans (hn4.mono hws));refine hK.out _ _ (⟨Aw HS.out.1 (hn4.block _ hbl), HS.out.2.below hn4 HS.out.2.lt⟩) (fun hHeld2 => ?_);clear hK K hHeld;have hHeld := hHeld2;clear hHeld2
       (try simp only [Act.put, pk1, pk2, pk3, pk4, pk5, pk6])
       refine wpAnyH_take (i := 6) (oi := _) (v := ?_) rfl (by kernel_rfl) (by kernel_rfl) (by kernel_rfl) (fun _ _ _ h => h) (Or.inl ⟨by kernel_rfl, ?_⟩) hHeld ?_;rotate_left
       ·intro wq hSw;go_simp
        (try with_reducible rfl)
       (try simp only [Act.put, pk1, pk2, pk3, pk4, pk5, pk6])
       refine wpAnyH_take (i := 7) (oi := _) (v := ?_) rfl (by kernel_rfl) (by kernel_rfl) (by kernel_rfl) (fun _ _ _ h => h) (Or.inl ⟨by kernel_rfl, ?_⟩) hHeld ?_;rotate_left
       ·intro wq hSw;go_simp
        (try with_reducible rfl)
       (try simp only [Act.put, pk1, pk2, pk3, pk4, pk5, pk6])
       refine wpAnyH_take (i := 8) (oi := _) (v := undef) rfl (by kernel_rfl) (by kernel_rfl) (by kernel_rfl) (fun _ _ _ h => h) (Or.inr ⟨by kernel_rfl, rfl⟩) hHeld ?_
       (try simp only [Act.put, pk1, pk2, pk3, pk4, pk5, pk6])
       refine wpAnyH_take (i := 9) (oi := _) (v := undef) rfl (by kernel_rfl) (by kernel_rfl) (by kernel_rfl) (fun _ _ _ h => h) (Or.inr ⟨by kernel_rfl, rfl⟩) hHeld ?_
       (try simp only [Act.put, pk1, pk2, pk3, pk4, pk5, pk6])
       refine wpAnyH_take (i := 10) (oi := _) (v := undef) rfl (by kernel_rfl) (by kernel_rfl) (by kernel_rfl) (fun _ _ _ h => h) (Or.inr ⟨by kernel_rfl, rfl⟩) hHeld ?_
       (try simp only [Act.put, pk1, pk2, pk3, pk4, pk5, pk6])
       refine wpAnyH_take (i := 11) (oi := _) (v := undef) rfl (by kernel_rfl) (by kernel_rfl) (by kernel_rfl) (fun _ _ _ h => h) (Or.inr ⟨by kernel_rfl, rfl⟩) hHeld ?_
       (try simp only [Act.put, pk1, pk2, pk3, pk4, pk5, pk6])
       refine wpAnyH_take (i := 12) (oi := _) (v := undef) rfl (by kernel_rfl) (by kernel_rfl) (by kernel_rfl) (fun _ _ _ h => h) (Or.inr ⟨by kernel_rfl, rfl⟩) hHeld ?_
       (try simp only [Act.put, pk1, pk2, pk3, pk4, pk5, pk6])
       refine wpAnyH_take (i := 13) (oi := _) (v := undef) rfl (by kernel_rfl) (by kernel_rfl) (by kernel_rfl) (fun _ _ _ h => h) (Or.inr ⟨by kernel_rfl, rfl⟩) hHeld ?_
       (try simp only [Act.put, pk1, pk2, pk3, pk4, pk5, pk6])
       refine wpAnyH_take (i := 14) (oi := _) (v := undef) rfl (by kernel_rfl) (by kernel_rfl) (by kernel_rfl) (fun _ _ _ h => h) (Or.inr ⟨by kernel_rfl, rfl⟩) hHeld ?_
       (try simp only [Act.put, pk1, pk2, pk3, pk4, pk5, pk6])
       refine wpAnyH_take (i := 15) (oi := _) (v := ?_) rfl (by kernel_rfl) (by kernel_rfl) (by kernel_rfl) (fun _ _ _ h => h) (Or.inl ⟨by kernel_rfl, ?_⟩) hHeld ?_;rotate_left
       ·intro wq hSw;go_simp
        (try with_reducible rfl)
       (try simp only [Act.put, pk1, pk2, pk3, pk4, pk5, pk6])
       refine wpAnyH_done (by kernel_rfl) ?_ _;refine NoPanic.normal ?_;go_wp2_with fail
       go_roundw
       case rel => exact ⟨k + 1, G, hlt, by go_num, HG2.out, by omega, HGM.out, HO.out.bel HN4.out, HB4.out⟩
       case measure => simp [RowKit.intOf]; omega
      | false =>
       rw [hsu] at HSU;have HSM := hid HSU;clear HSU
       cases hin : (G.any fun y => Pr.same y x) with
       | true =>
        have HG2 : Hid (Pr.dedF unit [] F = Pr.dedF unit G (F.drop (k + 1))) := hid (by rw [HG.out, HST.out, hsu, hin, if_neg (by simp)]);clear hsu;go_wp2_with fail;refine wp_region_noPanic ?_;refine wp_region_held_drew (S := fun W => W.rangeAt b (off + k * 4) [.int .i64 x.op, .string (bstr x.text), .int .i64 x.num, .slice A' x.kids.length c'] ∧ Blk W (w.heap.size + 1) 36 U) (by kernel_rfl) (HS.out) (fun hHeld => ?_);refine wpAnyH_take (i := 0) (oi := _) (v := ?_) rfl (by kernel_rfl) (by kernel_rfl) (by kernel_rfl) (fun _ _ _ h => h) (Or.inl ⟨by kernel_rfl, ?_⟩) hHeld ?_;rotate_left
        ·intro wq hSw;go_simp
         (try with_reducible rfl)
        (try simp only [Act.put, pk1, pk2, pk3, pk4, pk5, pk6])
        refine wpAnyH_take (i := 1) (oi := _) (v := ?_) rfl (by kernel_rfl) (by kernel_rfl) (by kernel_rfl) (fun _ _ _ h => h) (Or.inl ⟨by kernel_rfl, ?_⟩) hHeld ?_;rotate_left
        ·intro wq hSw;go_simp
         (try with_reducible rfl)
        (try simp only [Act.put, pk1, pk2, pk3, pk4, pk5, pk6])
        refine wpAnyH_take (i := 2) (oi := _) (v := ?_) rfl (by kernel_rfl) (by kernel_rfl) (by kernel_rfl) (fun _ _ _ h => h) (Or.inl ⟨by kernel_rfl, ?_⟩) hHeld ?_;rotate_left
        ·intro wq hSw;go_simp
         (try with_reducible rfl)
        (try simp only [Act.put, pk1, pk2, pk3, pk4, pk5, pk6])
        refine wpAnyH_take (i := 3) (oi := _) (v := _) rfl (by kernel_rfl) (by kernel_rfl) (by kernel_rfl) (fun _ _ _ h => h) (AI rfl Tryz.underlying36 HL2.out (fun W h => h.1) (by kernel_rfl) _ rfl rfl) hHeld ?_
        (try simp only [Act.put, pk1, pk2, pk3, pk4, pk5, pk6])
        refine wpAnyH_take (i := 4) (oi := _) (v := _) rfl (by kernel_rfl) (by kernel_rfl) (by kernel_rfl) (fun _ _ _ h => h) (Ao (X := U) rfl Tryz.underlying36 HSU1.out (fun W h => h.2) (by kernel_rfl) _ rfl rfl) hHeld ?_
        (try simp only [Act.put, pk1, pk2, pk3, pk4, pk5, pk6])
        refine wpAnyH_ready (rs := [5]) (by kernel_rfl) (by simp) ?_;refine AllReadyH.cons (o := _) rfl (fun K hK => ?_) AllReadyH.nil;go_simp
        go_at_call 17
        refine HSM.out.mono ?_;rintro e w4 ⟨rfl, hb4⟩;have hn4 : Below wr.heap.size wr w4 := (Below.refl wr.heap.size wr).drew.trans hb4;have HN4 := hid hn4;have HB4 := hid (HB.out.trans (hn4.mono hws));refine hK.out _ _ (⟨Aw HS.out.1 (hn4.block _ hbl), HS.out.2.below hn4 HS.out.2.lt⟩) (fun hHeld2 => ?_);clear hK K hHeld;have hHeld := hHeld2;clear hHeld2
        (try simp only [Act.put, pk1, pk2, pk3, pk4, pk5, pk6])
        refine wpAnyH_take (i := 6) (oi := _) (v := ?_) rfl (by kernel_rfl) (by kernel_rfl) (by kernel_rfl) (fun _ _ _ h => h) (Or.inl ⟨by kernel_rfl, ?_⟩) hHeld ?_;rotate_left
        ·intro wq hSw;go_simp
         (try with_reducible rfl)
        (try simp only [Act.put, pk1, pk2, pk3, pk4, pk5, pk6])
        refine wpAnyH_take (i := 7) (oi := _) (v := ?_) rfl (by kernel_rfl) (by kernel_rfl) (by kernel_rfl) (fun _ _ _ h => h) (Or.inl ⟨by kernel_rfl, ?_⟩) hHeld ?_;rotate_left
        ·intro wq hSw;go_simp
         (try with_reducible rfl)
        (try simp only [Act.put, pk1, pk2, pk3, pk4, pk5, pk6])
        refine wpAnyH_take (i := 8) (oi := _) (v := ?_) rfl (by kernel_rfl) (by kernel_rfl) (by kernel_rfl) (fun _ _ _ h => h) (Or.inl ⟨by kernel_rfl, ?_⟩) hHeld ?_;rotate_left
        ·intro wq hSw;go_simp
         (try with_reducible rfl)
        (try simp only [Act.put, pk1, pk2, pk3, pk4, pk5, pk6])
        refine wpAnyH_take (i := 9) (oi := _) (v := ?_) rfl (by kernel_rfl) (by kernel_rfl) (by kernel_rfl) (fun _ _ _ h => h) (Or.inl ⟨by kernel_rfl, ?_⟩) hHeld ?_;rotate_left
        ·intro wq hSw;go_simp
         (try with_reducible rfl)
        (try simp only [Act.put, pk1, pk2, pk3, pk4, pk5, pk6])
        refine wpAnyH_take (i := 10) (oi := _) (v := ?_) rfl (by kernel_rfl) (by kernel_rfl) (by kernel_rfl) (fun _ _ _ h => h) (Or.inl ⟨by kernel_rfl, ?_⟩) hHeld ?_;rotate_left
        ·intro wq hSw;go_simp
         (try with_reducible rfl)
        (try simp only [Act.put, pk1, pk2, pk3, pk4, pk5, pk6])
        refine wpAnyH_take (i := 11) (oi := _) (v := ?_) rfl (by kernel_rfl) (by kernel_rfl) (by kernel_rfl) (fun _ _ _ h => h) (Or.inl ⟨by kernel_rfl, ?_⟩) hHeld ?_;rotate_left
        ·intro wq hSw;go_simp
         (try with_reducible rfl)
        (try simp only [Act.put, pk1, pk2, pk3, pk4, pk5, pk6])
        refine wpAnyH_take (i := 12) (oi := _) (v := _) rfl (by kernel_rfl) (by kernel_rfl) (by kernel_rfl) (fun _ _ _ h => h) (AI rfl Tryz.underlying36 HL2.out (fun W h => h.1) (by kernel_rfl) _ rfl rfl) hHeld ?_
        (try simp only [Act.put, pk1, pk2, pk3, pk4, pk5, pk6])
        refine wpAnyH_ready (rs := [13]) (by kernel_rfl) (by simp) ?_;refine AllReadyH.cons (o := _) rfl (fun K hK => ?_) AllReadyH.nil;go_simp
        go_at_call 85
        have HHG := Di _ _ x #[.int .i64 x.op, .string (bstr x.text), .int .i64 x.num, .slice A' x.kids.length c'] G A0 c0 w4 (by omega) (HRG.out.below HN4.out) (HCV.out.bel HN4.out) (fun y hy => by have := HFM.out y (HGM.out y hy); omega);rw [hin] at HHG;refine HHG.mono ?_;rintro e w6 ⟨rfl, hb6⟩;have hn6 : Below wr.heap.size wr w6 := HN4.out.trans (hb6.mono HN4.out.size);have HN6 := hid hn6;have HB6 := hid (HB.out.trans (hn6.mono hws));refine hK.out _ _ (⟨Aw HS.out.1 (hn6.block _ hbl), HS.out.2.below hn6 HS.out.2.lt⟩) (fun hHeld2 => ?_);clear hK K hHeld;have hHeld := hHeld2;clear hHeld2
        (try simp only [Act.put, pk1, pk2, pk3, pk4, pk5, pk6])
        refine wpAnyH_take (i := 14) (oi := _) (v := ?_) rfl (by kernel_rfl) (by kernel_rfl) (by kernel_rfl) (fun _ _ _ h => h) (Or.inl ⟨by kernel_rfl, ?_⟩) hHeld ?_;rotate_left
        ·intro wq hSw;go_simp
         (try with_reducible rfl)
        (try simp only [Act.put, pk1, pk2, pk3, pk4, pk5, pk6])
        refine wpAnyH_take (i := 15) (oi := _) (v := ?_) rfl (by kernel_rfl) (by kernel_rfl) (by kernel_rfl) (fun _ _ _ h => h) (Or.inl ⟨by kernel_rfl, ?_⟩) hHeld ?_;rotate_left
        ·intro wq hSw;go_simp
         (try with_reducible rfl)
        (try simp only [Act.put, pk1, pk2, pk3, pk4, pk5, pk6])
        refine wpAnyH_done (by kernel_rfl) ?_ _;refine NoPanic.normal ?_;go_wp2_with fail
        go_roundw
        case rel => exact ⟨k + 1, G, hlt, by go_num, HG2.out, by omega, HGM.out, HO.out.bel HN6.out, HB6.out⟩
        case measure => simp [RowKit.intOf]; omega
       | false =>
        have HG2 : Hid (Pr.dedF unit [] F = Pr.dedF unit (G ++ [x]) (F.drop (k + 1))) := hid (by rw [HG.out, HST.out, hsu, hin, if_pos ⟨rfl, rfl⟩]);clear hsu;go_wp2_with fail;refine wp_region_noPanic ?_;refine wp_region_held_drew (S := fun W => W.rangeAt b (off + k * 4) [.int .i64 x.op, .string (bstr x.text), .int .i64 x.num, .slice A' x.kids.length c'] ∧ Blk W (w.heap.size + 1) 36 U) (by kernel_rfl) (HS.out) (fun hHeld => ?_);refine wpAnyH_take (i := 0) (oi := _) (v := ?_) rfl (by kernel_rfl) (by kernel_rfl) (by kernel_rfl) (fun _ _ _ h => h) (Or.inl ⟨by kernel_rfl, ?_⟩) hHeld ?_;rotate_left
        ·intro wq hSw;go_simp
         (try with_reducible rfl)
        (try simp only [Act.put, pk1, pk2, pk3, pk4, pk5, pk6])
        refine wpAnyH_take (i := 1) (oi := _) (v := ?_) rfl (by kernel_rfl) (by kernel_rfl) (by kernel_rfl) (fun _ _ _ h => h) (Or.inl ⟨by kernel_rfl, ?_⟩) hHeld ?_;rotate_left
        ·intro wq hSw;go_simp
         (try with_reducible rfl)
        (try simp only [Act.put, pk1, pk2, pk3, pk4, pk5, pk6])
        refine wpAnyH_take (i := 2) (oi := _) (v := ?_) rfl (by kernel_rfl) (by kernel_rfl) (by kernel_rfl) (fun _ _ _ h => h) (Or.inl ⟨by kernel_rfl, ?_⟩) hHeld ?_;rotate_left
        ·intro wq hSw;go_simp
         (try with_reducible rfl)
        (try simp only [Act.put, pk1, pk2, pk3, pk4, pk5, pk6])
        refine wpAnyH_take (i := 3) (oi := _) (v := _) rfl (by kernel_rfl) (by kernel_rfl) (by kernel_rfl) (fun _ _ _ h => h) (AI rfl Tryz.underlying36 HL2.out (fun W h => h.1) (by kernel_rfl) _ rfl rfl) hHeld ?_
        (try simp only [Act.put, pk1, pk2, pk3, pk4, pk5, pk6])
        refine wpAnyH_take (i := 4) (oi := _) (v := _) rfl (by kernel_rfl) (by kernel_rfl) (by kernel_rfl) (fun _ _ _ h => h) (Ao (X := U) rfl Tryz.underlying36 HSU1.out (fun W h => h.2) (by kernel_rfl) _ rfl rfl) hHeld ?_
        (try simp only [Act.put, pk1, pk2, pk3, pk4, pk5, pk6])
        refine wpAnyH_ready (rs := [5]) (by kernel_rfl) (by simp) ?_;refine AllReadyH.cons (o := _) rfl (fun K hK => ?_) AllReadyH.nil;go_simp
        go_at_call 17
        refine HSM.out.mono ?_;rintro e w4 ⟨rfl, hb4⟩;have hn4 : Below wr.heap.size wr w4 := (Below.refl wr.heap.size wr).drew.trans hb4;have HN4 := hid hn4;have HB4 := hid (HB.out.trans (hn4.mono hws));refine hK.out _ _ (⟨Aw HS.out.1 (hn4.block _ hbl), HS.out.2.below hn4 HS.out.2.lt⟩) (fun hHeld2 => ?_);clear hK K hHeld;have hHeld := hHeld2;clear hHeld2
        (try simp only [Act.put, pk1, pk2, pk3, pk4, pk5, pk6])
        refine wpAnyH_take (i := 6) (oi := _) (v := ?_) rfl (by kernel_rfl) (by kernel_rfl) (by kernel_rfl) (fun _ _ _ h => h) (Or.inl ⟨by kernel_rfl, ?_⟩) hHeld ?_;rotate_left
        ·intro wq hSw;go_simp
         (try with_reducible rfl)
        (try simp only [Act.put, pk1, pk2, pk3, pk4, pk5, pk6])
        refine wpAnyH_take (i := 7) (oi := _) (v := ?_) rfl (by kernel_rfl) (by kernel_rfl) (by kernel_rfl) (fun _ _ _ h => h) (Or.inl ⟨by kernel_rfl, ?_⟩) hHeld ?_;rotate_left
        ·intro wq hSw;go_simp
         (try with_reducible rfl)
        (try simp only [Act.put, pk1, pk2, pk3, pk4, pk5, pk6])
        refine wpAnyH_take (i := 8) (oi := _) (v := ?_) rfl (by kernel_rfl) (by kernel_rfl) (by kernel_rfl) (fun _ _ _ h => h) (Or.inl ⟨by kernel_rfl, ?_⟩) hHeld ?_;rotate_left
        ·intro wq hSw;go_simp
         (try with_reducible rfl)
        (try simp only [Act.put, pk1, pk2, pk3, pk4, pk5, pk6])
        refine wpAnyH_take (i := 9) (oi := _) (v := ?_) rfl (by kernel_rfl) (by kernel_rfl) (by kernel_rfl) (fun _ _ _ h => h) (Or.inl ⟨by kernel_rfl, ?_⟩) hHeld ?_;rotate_left
        ·intro wq hSw;go_simp
         (try with_reducible rfl)
        (try simp only [Act.put, pk1, pk2, pk3, pk4, pk5, pk6])
        refine wpAnyH_take (i := 10) (oi := _) (v := ?_) rfl (by kernel_rfl) (by kernel_rfl) (by kernel_rfl) (fun _ _ _ h => h) (Or.inl ⟨by kernel_rfl, ?_⟩) hHeld ?_;rotate_left
        ·intro wq hSw;go_simp
         (try with_reducible rfl)
        (try simp only [Act.put, pk1, pk2, pk3, pk4, pk5, pk6])
        refine wpAnyH_take (i := 11) (oi := _) (v := ?_) rfl (by kernel_rfl) (by kernel_rfl) (by kernel_rfl) (fun _ _ _ h => h) (Or.inl ⟨by kernel_rfl, ?_⟩) hHeld ?_;rotate_left
        ·intro wq hSw;go_simp
         (try with_reducible rfl)
        (try simp only [Act.put, pk1, pk2, pk3, pk4, pk5, pk6])
        refine wpAnyH_take (i := 12) (oi := _) (v := _) rfl (by kernel_rfl) (by kernel_rfl) (by kernel_rfl) (fun _ _ _ h => h) (AI rfl Tryz.underlying36 HL2.out (fun W h => h.1) (by kernel_rfl) _ rfl rfl) hHeld ?_
        (try simp only [Act.put, pk1, pk2, pk3, pk4, pk5, pk6])
        refine wpAnyH_ready (rs := [13]) (by kernel_rfl) (by simp) ?_;refine AllReadyH.cons (o := _) rfl (fun K hK => ?_) AllReadyH.nil;go_simp
        go_at_call 85
        have HHG := Di _ _ x #[.int .i64 x.op, .string (bstr x.text), .int .i64 x.num, .slice A' x.kids.length c'] G A0 c0 w4 (by omega) (HRG.out.below HN4.out) (HCV.out.bel HN4.out) (fun y hy => by have := HFM.out y (HGM.out y hy); omega);rw [hin] at HHG;refine HHG.mono ?_;rintro e w6 ⟨rfl, hb6⟩;have hn6 : Below wr.heap.size wr w6 := HN4.out.trans (hb6.mono HN4.out.size);have HN6 := hid hn6;have HB6 := hid (HB.out.trans (hn6.mono hws));refine hK.out _ _ (⟨Aw HS.out.1 (hn6.block _ hbl), HS.out.2.below hn6 HS.out.2.lt⟩) (fun hHeld2 => ?_);clear hK K hHeld;have hHeld := hHeld2;clear hHeld2
        (try simp only [Act.put, pk1, pk2, pk3, pk4, pk5, pk6])
        refine wpAnyH_take (i := 14) (oi := _) (v := ?_) rfl (by kernel_rfl) (by kernel_rfl) (by kernel_rfl) (fun _ _ _ h => h) (Or.inl ⟨by kernel_rfl, ?_⟩) hHeld ?_;rotate_left
        ·intro wq hSw;go_simp
         (try with_reducible rfl)
        (try simp only [Act.put, pk1, pk2, pk3, pk4, pk5, pk6])
        refine wpAnyH_take (i := 15) (oi := _) (v := ?_) rfl (by kernel_rfl) (by kernel_rfl) (by kernel_rfl) (fun _ _ _ h => h) (Or.inl ⟨by kernel_rfl, ?_⟩) hHeld ?_;rotate_left
        ·intro wq hSw;go_simp
         (try with_reducible rfl)
        (try simp only [Act.put, pk1, pk2, pk3, pk4, pk5, pk6])
        refine wpAnyH_done (by kernel_rfl) ?_ _;refine NoPanic.normal ?_;have HO6 := hid (HO.out.bel HN6.out);have HCV6 := hid (HCV.out.bel HN6.out);have hr6 := hHeld.1;have hs6 : wg.heap.size ≤ w6.heap.size := HB6.out.size;have hbz := (Below.refl w6.heap.size w6).alloc (Nat.le_refl _) (.cells #[.int .i64 x.op, .string (bstr x.text), .int .i64 x.num, .slice A' x.kids.length c'] 36);obtain ⟨xs, hown, hcs⟩ := HO6.out.bel hbz;have HCS := hid hcs;have HCS2 := hid (CnsV.one ((HCV6.out.bel hbz).keep (ok' := fun b => w1.heap.size ≤ b ∧ some b ≠ (Value.slice A0 G.length c0).ownBlock) fun b hb _ => ⟨⟨hb.1, fun e => by have := (hownlt b e.symm).1; omega⟩, rfl⟩));have hrd := Rd.of_blk (vs := [.int .i64 x.op, .string (bstr x.text), .int .i64 x.num, .slice A' x.kids.length c']) (Blk.new w6 36 #[.int .i64 x.op, .string (bstr x.text), .int .i64 x.num, .slice A' x.kids.length c']);have HB7 := hid (HB6.out.alloc hs6 (.cells #[.int .i64 x.op, .string (bstr x.text), .int .i64 x.num, .slice A' x.kids.length c'] 36));have hs7 : wg.heap.size ≤ (w6.alloc (.cells #[.int .i64 x.op, .string (bstr x.text), .int .i64 x.num, .slice A' x.kids.length c'] 36)).heap.size := HB7.out.size;have hone2 : ∀ u ∈ ([.int .i64 x.op, .string (bstr x.text), .int .i64 x.num, .slice A' x.kids.length c'] : List Value), u.oneCell' = true := by intro u hu; simp at hu; rcases hu with rfl | rfl | rfl | rfl <;> rfl
        have hlen : G.length + 1 ≤ 100000000000 := by omega
        clear hin hcs hbz hHeld
        go_wp2_with (first
         | ((with_reducible refine wpList_load_mid rfl 36 _ rfl b (off + k * 4) ?_ _ _ hr6 Tryz.underlying36 ?_ HL2.out ?_); rfl; rfl)
         | ((refine AC rowCn rfl _ _ rfl _ (.slice A0 G.length c0) _ xs _ wg.heap.size rfl hown _ 1 1 rfl hrd hone2 hs7 hlen ?_); intro v8 w8 ho8 hg8 hb8 hwh8))
        go_roundw
        case rel => exact ⟨k + 1, G ++ [x], hlt, by go_num, HG2.out, by rw [List.length_append]; show G.length + 1 ≤ k + 1; omega, (fun c hc => by rcases List.mem_append.1 hc with h | h; exact HGM.out c h; rw [List.mem_singleton.1 h]; exact HXM.out), CnO.app hown HCS.out HCS2.out ho8 hg8 hwh8, hb8 _ HB7.out⟩
        case measure => simp [RowKit.intOf]; omega
     ·obtain rfl : k = F.length := by omega
      have HFIN0 : Hid (Pr.gath op F zero unit = Pr.gFin op unit G) := hid (by rw [HGD.out, HG.out, List.drop_length, Pr.dedF]);obtain ⟨A1, c1, e1, hc1, hrowG⟩ := HO.out.row (ok' := fun b => w1.heap.size ≤ b) (fun b h => h) (fun q hq => by have := hownlt q hq; omega);injection e1 with e1 e2 e3;subst e1 e3;have HRG := hid hrowG;clear hrowG e2;have hs1 := HSZ.out;rcases G with _ | ⟨x, _ | ⟨y, G⟩⟩
      ·have HFIN : Hid (Pr.gath op F zero unit = unit) := HFIN0;have hU1 := HU.out.one;clear HFIN0;simp only [List.length_nil] at *
       go_wp2_with (first
        | (refine Ac (by rfl) 36 _ rfl (w.heap.size + 1) rfl 36 _ (0, 0) _ rfl HKU.out Tryz.underlying36 HSU1.out ?_)
        | ((with_reducible refine Ab rfl 36 _ _ rfl (w.heap.size + 2) U ?_ ?_ 36 _ HKR.out HSU1.out HOU.out hU1 ?_); rfl; rfl; intro w9 hk9 hs9 hbl9 hoth9))
       have HB9 : Hid (Below w.heap.size w w9) := hid (HBr.out.trans (hbl9 w.heap.size (by omega)));exact bodyPost_ret (v := .agg U) (results_cell_row rfl _ _ (w.heap.size + 2) 36 _ (0, 0) _ rfl hk9 Tryz.underlying36 rfl HSU1.out) rfl ⟨⟨_, rfl, by rw [HFE.out, HFIN.out]; exact HU.out.keep fun b hb hl => ⟨.inr (.inl hb), HB9.out.block b hl⟩⟩, HB9.out⟩
      ·have HFIN : Hid (Pr.gath op F zero unit = x) := HFIN0;obtain ⟨b, off, cs, rfl, hok, hr, hcl, hcv⟩ := HRG.out 0 x rfl;have HCV := hid hcv;have hone := hcv.one;rw [Nat.zero_mul, Nat.add_zero] at hr;have HL2 : Hid ((Tryz.prog.info? 36).map (·.size) = some cs.length) := hid (by rw [Aa, hcl]);have HL3 : Hid ((Tryz.prog.info? 36).map (·.size) = some cs.toArray.size) := hid (by rw [Aa, List.size_toArray, hcl]);have HSZ3 : Hid (zCn.size = cs.toArray.size) := hid (by show 4 = cs.toArray.size; rw [List.size_toArray, hcl]);clear hcv HFIN0;simp only [List.length_cons, List.length_nil, Nat.zero_add] at hc0 hc1 hgl ⊢
       go_wp2_with (first
        | ((with_reducible refine wpList_load_mid rfl 36 _ rfl b off ?_ cs _ hr Tryz.underlying36 ?_ HL2.out ?_); rfl; rfl)
        | ((with_reducible refine Ab rfl 36 _ _ rfl (w.heap.size + 2) cs.toArray ?_ ?_ 36 _ HKR.out HL3.out HSZ3.out hone ?_); rfl; rfl; intro w9 hk9 hs9 hbl9 hoth9))
       have HB9 : Hid (Below w.heap.size w w9) := hid (HBr.out.trans (hbl9 w.heap.size (by omega)));exact bodyPost_ret (v := .agg cs.toArray) (results_cell_row rfl _ _ (w.heap.size + 2) 36 _ (0, 0) _ rfl hk9 Tryz.underlying36 rfl HL3.out) rfl ⟨⟨_, rfl, by rw [HFE.out, HFIN.out]; exact HCV.out.keep fun b hb hl => ⟨.inr (.inr (by omega)), hoth9 b (by omega)⟩⟩, HB9.out⟩
      ·have HFIN : Hid (Pr.gath op F zero unit = .mk op [] 0 (x :: y :: G)) := HFIN0;clear HFIN0;have hn0 : ¬ ((x :: y :: G).length : Int) = 0 := by simp only [List.length_cons]; omega
       have hn1 : ¬ ((x :: y :: G).length : Int) = 1 := by simp only [List.length_cons]; omega
       have hq0 : (((x :: y :: G).length : Int) == 0) = false := beq_eq_false_iff_ne.2 hn0;have hq1 : (((x :: y :: G).length : Int) == 1) = false := beq_eq_false_iff_ne.2 hn1;have HFIN2 : Hid (Pr.gath op F zero unit = .mk op [] 0 (x :: y :: G)) := hid HFIN.out;have HLR : Hid ((Tryz.prog.info? 36).map (·.size) = some (#[.int .i64 op, .string ⟨#[]⟩, .int .i64 0, .slice A0 (x :: y :: G).length c0] : Array Value).size) := hid (by rw [Aa]; rfl);clear HFIN;generalize hGG : x :: y :: G = GG at *;clear hGG
       go_wp2_with (first
        | ((with_reducible refine Ab rfl 36 _ _ rfl (w.heap.size + 2) #[.int .i64 op, .string ⟨#[]⟩, .int .i64 0, .slice A0 GG.length c0] ?_ ?_ 36 _ HKR.out HLR.out rfl (AJ _ _ _ _ _ _) ?_); rfl; rfl; intro w9 hk9 hs9 hbl9 hoth9))
       have HB9 : Hid (Below w.heap.size w w9) := hid (HBr.out.trans (hbl9 w.heap.size (by omega)));exact bodyPost_ret (v := .agg #[.int .i64 op, .string ⟨#[]⟩, .int .i64 0, .slice A0 GG.length c0]) (results_cell_row rfl _ _ (w.heap.size + 2) 36 _ (0, 0) _ rfl hk9 Tryz.underlying36 rfl HLR.out) rfl ⟨⟨_, rfl, by rw [HFE.out, HFIN2.out]; exact CnV.make (HRG.out.keep fun b hb hl => ⟨.inr (.inr (by omega)), hoth9 b (by omega)⟩)⟩, HB9.out⟩
end Go.Proofs.YtchkiegehejfmaaGreatDoor
