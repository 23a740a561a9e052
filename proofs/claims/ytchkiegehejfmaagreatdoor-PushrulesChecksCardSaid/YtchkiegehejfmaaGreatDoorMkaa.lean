/- The texts Gx, Gy, Gz of this proof, one behind the other. -/
import Derived.Test.YtchkiegehejfmaaGreatDoorMak
import Derived.Test.YtchkiegehejfmaaGreatDoorMae
set_option linter.unusedSimpArgs false
set_option maxHeartbeats 16000000
set_option maxRecDepth 100000
set_option linter.unusedVariables false
/- The text Gx. -/
namespace Pr
def dedF (unit : Cn) : List Cn → List Cn → List Cn
 | out, [] => out
 | out, x :: r => if same x unit = false ∧ out.any (fun y => same y x) = false then dedF unit (out ++ [x]) r else dedF unit out r
theorem any_same2 (x : Cn) (l : List Cn) : l.any (fun y => same y x) = decide (x ∈ l) := by
 induction l with
 | nil => rfl
 | cons y r ih =>
  rw [List.any_cons, ih, same_dec]
  by_cases h : y = x
  ·subst h; simp
  ·have h2 : ¬ x = y := fun e => h e.symm
   simp [h, h2]
theorem gathF_ded (zero unit : Cn) : ∀ (l out : List Cn), gathF zero unit out l = if zero ∈ l then none else some (dedF unit out l)
 | [], out => by rw [gathF, dedF, if_neg (by simp)]
 | x :: r, out => by
  rw [gathF_step, dedF]
  by_cases h1 : x = zero
  ·subst h1
   rw [if_pos (same_self x), if_pos (List.mem_cons_self ..)]
  ·have h2 : same x zero = false := by rw [same_dec]; exact decide_eq_false h1
   have h3 : (zero ∈ x :: r) ↔ zero ∈ r := by
    rw [List.mem_cons]
    exact ⟨fun h => h.resolve_left (fun e => h1 e.symm), .inr⟩
   have h4 : (out.any fun y => same x y) = out.any (fun y => same y x) := by rw [any_same, any_same2]
   rw [h2, if_neg (by decide), h4, gathF_ded zero unit r, gathF_ded zero unit r]
   by_cases h5 : zero ∈ r
   ·rw [if_pos h5, if_pos h5, if_pos (h3.2 h5)]
    split <;> rfl
   ·rw [if_neg h5, if_neg h5, if_neg (fun h => h5 (h3.1 h))]
    split <;> rfl
theorem gath_two (op : Int) (l : List Cn) (zero unit : Cn) : gath op l zero unit = if l.any (fun y => same y zero) = true then zero else gFin op unit (dedF unit [] l) := by
 rw [any_same2]
 by_cases h : zero ∈ l
 ·rw [if_pos (decide_eq_true h)]
  unfold gath
  rw [gathF_ded, if_pos h]
 ·rw [decide_eq_false h, if_neg (by decide)]
  exact gath_some op l zero unit _ (by rw [gathF_ded, if_neg h])
theorem dedF_step {unit x : Cn} {out l : List Cn} {k : Nat} (h : l[k]? = some x) : dedF unit out (l.drop k) = if same x unit = false ∧ out.any (fun y => same y x) = false then dedF unit (out ++ [x]) (l.drop (k + 1)) else dedF unit out (l.drop (k + 1)) := by
 obtain ⟨h1, h2⟩ := List.getElem?_eq_some_iff.1 h
 rw [List.drop_eq_getElem_cons h1, h2, dedF]
theorem take_noC {p : Cn → Bool} {L : List Cn} {k : Nat} {y : Cn} (h : ∀ z ∈ L.take k, p z = false) (hy : L[k]? = some y) (hn : p y = false) : ∀ z ∈ L.take (k + 1), p z = false := fun z hz => by
 obtain ⟨h1, h2⟩ := List.getElem?_eq_some_iff.1 hy
 rw [List.take_succ_eq_append_getElem h1, h2] at hz
 rcases List.mem_append.1 hz with hz | hz
 ·exact h z hz
 ·rw [List.mem_singleton.1 hz]; exact hn
end Pr
namespace Go.Proofs.YtchkiegehejfmaaGreatDoor
open Go.RowKit Go.Lib
set_option linter.unusedVariables false
set_option linter.unusedSimpArgs false
theorem rnever_any (w : World) : Calls Tryz.prog 45 #[] w fun e w' => (∃ X, e = .returned (.agg X) ∧ CnV w' (fun b => w.heap.size ≤ b) X Pr.never) ∧ Below w.heap.size w w' := by
 go_enter Tryz.func45, Tryz.ntmps45
 go_wp2_with fail
 have hk0 := (Blk.new w 36 #[.int .i64 4, .string ⟨#[]⟩, .int .i64 0, .slice (some ⟨w.heap.size + 1, 0, none⟩) 1 1]).alloc (.cells #[.int .i64 1, .string ⟨#[]⟩, .int .i64 0, .slice none 0 0] 36)
 have hk1 := Blk.new (w.alloc (.cells #[.int .i64 4, .string ⟨#[]⟩, .int .i64 0, .slice (some ⟨w.heap.size + 1, 0, none⟩) 1 1] 36)) 36 #[.int .i64 1, .string ⟨#[]⟩, .int .i64 0, .slice none 0 0]
 rw [World.size_alloc] at hk1
 exact bodyPost_ret (v := .agg #[.int .i64 4, .string ⟨#[]⟩, .int .i64 0, .slice (some ⟨w.heap.size + 1, 0, none⟩) 1 1]) (results_cell_row rfl _ _ w.heap.size 36 _ (0, 0) _ rfl hk0 Tryz.underlying36 rfl (by rw [size_cond]; rfl)) rfl ⟨⟨_, rfl, cn_never hk1 (Nat.le_succ _)⟩, ((Below.refl _ w).alloc (Nat.le_refl _) _).alloc (by rw [World.size_alloc]; exact Nat.le_succ _) _⟩
theorem rhas_any (ok ok' : Nat → Prop) (x : Pr.Cn) (X : Array Value) (l : List Pr.Cn) (A : Option Addr) (cap : Nat) (w : World) (hn : l.length ≤ 1000000) (hr : CnRow w ok A l) (hx : CnV w ok' X x) (hnl : ∀ y ∈ l, Pr.nodes y ≤ 1000000) :
  Calls Tryz.prog 85 #[.slice A l.length cap, .agg X] w fun e w' => e = .returned (.bool (l.any fun y => Pr.same y x)) ∧ Below w.heap.size w w' := by
 have hb1 := (Below.refl w.heap.size w).alloc (Nat.le_refl _) (.cells X 36)
 have HB1 := hid hb1
 have HR := hid (hr.below hb1)
 have HX := hid (hx.bel hb1)
 have HKX := hid (Blk.new w 36 X)
 have HN := hid hnl
 have HSX : Hid ((Tryz.prog.info? 36).map (·.size) = some X.size) := hid (by rw [size_cond, hx.size])
 have HT : Hid (∀ y ∈ l, Pr.same y x = true → (l.any fun y => Pr.same y x) = true) := hid (fun y hy h => List.any_eq_true.2 ⟨y, hy, h⟩)
 have HF : Hid ((∀ y ∈ l, Pr.same y x = false) → (l.any fun y => Pr.same y x) = false) := hid (fun h => List.any_eq_false.2 (fun y hy => by rw [h y hy]; decide))
 generalize (l.any fun y => Pr.same y x) = Z at *
 clear hr hx hb1 hnl
 generalize hw1 : w.alloc (.cells X 36) = w1 at *
 go_enter Tryz.func85, Tryz.ntmps85
 go_wp2_with fail
 go_loopw [5] (fun ix wr => ∃ k : Nat, k ≤ l.length ∧ ix = .int .i64 (k : Int) ∧ Below w1.heap.size w1 wr ∧ ∀ z ∈ l.take k, Pr.same z x = false) (fun ix _ => l.length - (RowKit.intOf ix).toNat)
 case atStart => exact ⟨0, Nat.zero_le _, rfl, Below.refl _ _, fun z hz => by simp at hz⟩
 case round =>
  obtain ⟨k, hk, rfl, hb, hall⟩ := hrel
  have HB := hid hb
  have HALL := hid hall
  have hws := hb.size
  clear hb hall
  by_cases hlt : k < l.length
  ·obtain ⟨y, hy⟩ : ∃ y, l[k]? = some y := ⟨_, List.getElem?_eq_getElem hlt⟩
   obtain ⟨b, off, cs, rfl, hok, hr, hcl, hcv⟩ := (HR.out.below HB.out) k y hy
   have hny := HN.out y (List.mem_of_getElem? hy)
   have HTY := hid (HT.out y (List.mem_of_getElem? hy))
   have HFY := hid (fun h => Pr.take_noC (p := fun z => Pr.same z x) HALL.out hy h)
   have HCV := hid hcv
   have HL2 : Hid ((Tryz.prog.info? 36).map (·.size) = some cs.length) := hid (by rw [size_cond, hcl])
   have hkI : (k : Int) < (l.length : Int) := by omega
   have HS : Hid (wr.rangeAt b (off + k * 4) cs ∧ Blk wr w.heap.size 36 X) := hid ⟨hr, HKX.out.below HB.out HKX.out.lt⟩
   have hbl := range_lt hr (by omega)
   clear hy hcv hr
   go_wp2_with fail
   refine wp_region_noPanic ?_
   refine wp_region_held_drew (S := fun W => W.rangeAt b (off + k * 4) cs ∧ Blk W w.heap.size 36 X) (by kernel_rfl) (HS.out) (fun hHeld => ?_)
   refine wpAnyH_take (i := 0) (oi := _) (v := ?_) rfl (by kernel_rfl) (by kernel_rfl) (by kernel_rfl) (fun _ _ _ h => h) (Or.inl ⟨by kernel_rfl, ?_⟩) hHeld ?_
   rotate_left
   ·intro wq hSw
    go_simp
    (try with_reducible rfl)
   (try simp only [Act.put, List.getElem_toArray, List.getElem_cons_zero, List.getElem_cons_succ, List.setIfInBounds_toArray, List.set_cons_zero, List.set_cons_succ])
   refine wpAnyH_take (i := 1) (oi := _) (v := ?_) rfl (by kernel_rfl) (by kernel_rfl) (by kernel_rfl) (fun _ _ _ h => h) (Or.inl ⟨by kernel_rfl, ?_⟩) hHeld ?_
   rotate_left
   ·intro wq hSw
    go_simp
    (try with_reducible rfl)
   (try simp only [Act.put, List.getElem_toArray, List.getElem_cons_zero, List.getElem_cons_succ, List.setIfInBounds_toArray, List.set_cons_zero, List.set_cons_succ])
   refine wpAnyH_take (i := 2) (oi := _) (v := ?_) rfl (by kernel_rfl) (by kernel_rfl) (by kernel_rfl) (fun _ _ _ h => h) (Or.inl ⟨by kernel_rfl, ?_⟩) hHeld ?_
   rotate_left
   ·intro wq hSw
    go_simp
    (try with_reducible rfl)
   (try simp only [Act.put, List.getElem_toArray, List.getElem_cons_zero, List.getElem_cons_succ, List.setIfInBounds_toArray, List.set_cons_zero, List.set_cons_succ])
   refine wpAnyH_take (i := 3) (oi := _) (v := _) rfl (by kernel_rfl) (by kernel_rfl) (by kernel_rfl) (fun _ _ _ h => h) (mid_yields rfl Tryz.underlying36 HL2.out (fun W h => h.1) (by kernel_rfl) _ rfl rfl) hHeld ?_
   (try simp only [Act.put, List.getElem_toArray, List.getElem_cons_zero, List.getElem_cons_succ, List.setIfInBounds_toArray, List.set_cons_zero, List.set_cons_succ])
   refine wpAnyH_take (i := 4) (oi := _) (v := _) rfl (by kernel_rfl) (by kernel_rfl) (by kernel_rfl) (fun _ _ _ h => h) (row_yields_u (X := X) rfl Tryz.underlying36 HSX.out (fun W h => h.2) (by kernel_rfl) _ rfl rfl) hHeld ?_
   (try simp only [Act.put, List.getElem_toArray, List.getElem_cons_zero, List.getElem_cons_succ, List.setIfInBounds_toArray, List.set_cons_zero, List.set_cons_succ])
   refine wpAnyH_ready (rs := [5]) (by kernel_rfl) (by simp) ?_
   refine AllReadyH.cons (o := _) rfl (fun K hK => ?_) AllReadyH.nil
   go_simp
   go_at_call 17
   refine (rsame_any (Pr.nodes y) ok ok' y x cs.toArray X wr.drew (Nat.le_refl _) (by omega) (HCV.out.bel (Below.refl _ _).drew) (HX.out.bel (HB.out.drew))).mono ?_
   rintro e w4 ⟨rfl, hb4⟩
   have hn4 : Below wr.heap.size wr w4 := (Below.refl wr.heap.size wr).drew.trans hb4
   have HB4 := hid (HB.out.trans (hn4.mono hws))
   refine hK.out _ _ (⟨range_keep HS.out.1 (hn4.block _ hbl), HS.out.2.below hn4 HS.out.2.lt⟩) (fun hHeld2 => ?_)
   clear hK K hHeld
   have hHeld := hHeld2
   clear hHeld2
   (try simp only [Act.put, List.getElem_toArray, List.getElem_cons_zero, List.getElem_cons_succ, List.setIfInBounds_toArray, List.set_cons_zero, List.set_cons_succ])
   refine wpAnyH_done (by kernel_rfl) ?_ _
   refine NoPanic.normal ?_
   cases hsm : Pr.same y x with
   | true =>
    have HZ := hid (HTY.out hsm)
    clear hsm
    go_wp2_with fail
    go_ret
    exact ⟨congrArg (fun z => Ending.returned (.bool z)) HZ.out.symm, HB1.out.trans (HB4.out.mono HB1.out.size)⟩
   | false =>
    have HZ := hid (HFY.out hsm)
    clear hsm
    go_wp2_with fail
    go_roundw
    case rel => exact ⟨k + 1, hlt, by go_num, HB4.out, HZ.out⟩
    case measure => simp [RowKit.intOf]; omega
  ·obtain rfl : k = l.length := by omega
   have HZ := hid (HF.out (fun z hz => HALL.out z (by rw [List.take_length]; exact hz)))
   go_wp2_with fail
   go_ret
   exact ⟨congrArg (fun z => Ending.returned (.bool z)) HZ.out.symm, HB1.out.trans (HB.out.mono HB1.out.size)⟩
end Go.Proofs.YtchkiegehejfmaaGreatDoor
/- The text Gy. -/
namespace Go.Proofs.YtchkiegehejfmaaGreatDoor
open Go.RowKit Go.Lib
set_option linter.unusedVariables false
set_option linter.unusedSimpArgs false
def RSimpleTo (m : Nat) : Prop := ∀ (ok : Nat → Prop) (c : Pr.Cn) (V : Array Value) (w : World), Pr.nodes c ≤ m → CnV w ok V c → Calls Tryz.prog 16 #[.agg V] w fun e w' => (∃ X, e = .returned (.agg X) ∧ CnV w' (fun b => w.heap.size ≤ b) X (Pr.simple c)) ∧ Below w.heap.size w w'
theorem rjoined_any (m : Nat) (HSI : RSimpleTo m) (ok okz oku : Nat → Prop) (op : Int) (ks : List Pr.Cn) (A : Option Addr) (cap : Nat) (zero unit : Pr.Cn) (Z U : Array Value) (w : World) (hm : Pr.nodesL ks ≤ m) (hm6 : m ≤ 100000) (hr : CnRow w ok A ks)
  (hz : CnV w okz Z zero) (hu : CnV w oku U unit) (hnz : Pr.nodes zero ≤ 10) (hnu : Pr.nodes unit ≤ 10) :
  Calls Tryz.prog 44 #[.int .i64 op, .slice A ks.length cap, .agg Z, .agg U] w fun e w' => (∃ X, e = .returned (.agg X) ∧ CnV w' (fun b => okz b ∨ oku b ∨ w.heap.size ≤ b) X (Pr.gath op (Pr.flat op ks) zero unit)) ∧ Below w.heap.size w w' := by
 have hb3 := (((Below.refl w.heap.size w).alloc (Nat.le_refl _) (.cells Z 36)).alloc (by rw [World.size_alloc]; exact Nat.le_succ _) (.cells U 36)).alloc (by rw [World.size_alloc, World.size_alloc]; omega) (.cells zCn 36)
 have hsz : (((w.alloc (.cells Z 36)).alloc (.cells U 36)).alloc (.cells zCn 36)).heap.size = w.heap.size + 3 := by rw [World.size_alloc, World.size_alloc, World.size_alloc]
 have hkz : Blk (((w.alloc (.cells Z 36)).alloc (.cells U 36)).alloc (.cells zCn 36)) w.heap.size 36 Z := ((Blk.new w 36 Z).alloc _).alloc _
 have hku : Blk (((w.alloc (.cells Z 36)).alloc (.cells U 36)).alloc (.cells zCn 36)) (w.heap.size + 1) 36 U := by have := (Blk.new (w.alloc (.cells Z 36)) 36 U).alloc (.cells zCn 36); rw [World.size_alloc] at this; exact this
 have hkr : Blk (((w.alloc (.cells Z 36)).alloc (.cells U 36)).alloc (.cells zCn 36)) (w.heap.size + 2) 36 zCn := by have := Blk.new ((w.alloc (.cells Z 36)).alloc (.cells U 36)) 36 zCn; rw [World.size_alloc, World.size_alloc] at this; exact this
 have HSZ1 : Hid ((Tryz.prog.info? 36).map (·.size) = some Z.size) := hid (by rw [size_cond, hz.size])
 have HSU1 : Hid ((Tryz.prog.info? 36).map (·.size) = some U.size) := hid (by rw [size_cond, hu.size])
 have HOZ : Hid (zCn.size = Z.size) := hid (by rw [hz.size]; rfl)
 have HOU : Hid (zCn.size = U.size) := hid (by rw [hu.size]; rfl)
 have HZ := hid hz
 have HU := hid hu
 have HB1 := hid hb3
 have HSZ := hid hsz
 have HKZ := hid hkz
 have HKU := hid hku
 have HKR := hid hkr
 have HR1 := hid (hr.below hb3)
 have hfn := Pr.flat_nodes op ks
 have hfl := Pr.kids_nodes (Pr.flat op ks)
 have HFM : Hid (∀ c ∈ Pr.flat op ks, Pr.nodes c ≤ 200000) := hid (fun c hc => by have := Pr.nodes_mem hc; omega)
 have HF6 : Hid ((Pr.flat op ks).length ≤ 200000) := hid (by omega)
 clear hr hz hu hb3 hsz hkz hku hkr hfn hfl
 generalize hw1 : ((w.alloc (.cells Z 36)).alloc (.cells U 36)).alloc (.cells zCn 36) = w1 at *
 have hkl := Pr.kids_nodes ks
 have HFN : Hid (∀ k, (Pr.flat op (ks.take k)).length ≤ 2000000) := hid (fun k => by
  have h1 := Pr.kids_nodes (Pr.flat op (ks.take k))
  have h2 := Pr.flat_nodes op (ks.take k)
  have h3 := Pr.nodesL_le ks k
  omega)
 have HI := hid HSI
 clear HSI
 go_enter Tryz.func44, Tryz.ntmps44
 go_wp2_with fail
 clear hw1
 go_loopw [9, 10] (fun out ix wr => ∃ k : Nat, k ≤ ks.length ∧ ix = .int .i64 (k : Int) ∧ CnO wr w1.heap.size (fun b => w1.heap.size ≤ b) out (Pr.flat op (ks.take k)) ∧ Below w1.heap.size w1 wr) (fun _ ix _ => ks.length - (RowKit.intOf ix).toNat)
 case atStart => exact ⟨0, Nat.zero_le _, rfl, CnO.nil, Below.refl _ _⟩
 case round =>
  obtain ⟨k, hk, rfl, ho, hb⟩ := hrel
  have HO := hid ho
  have HB := hid hb
  have hws := hb.size
  clear ho hb
  by_cases hlt : k < ks.length
  ·obtain ⟨x, hx⟩ : ∃ x, ks[k]? = some x := ⟨_, List.getElem?_eq_getElem hlt⟩
   obtain ⟨b, off, cs, rfl, hok, hr, hcl, hcv⟩ := (HR1.out.below HB.out) k x hx
   have HXK := hid hx
   have hnk := Pr.nodes_kid hx
   have HFA := hid (flat_at op hx)
   have hf1 := HFN.out (k + 1)
   have HCV := hid hcv
   have hone := hcv.one
   have HL2 : Hid ((Tryz.prog.info? 36).map (·.size) = some cs.length) := hid (by rw [size_cond, hcl])
   obtain ⟨A0, c0, rfl, hc0⟩ := HO.out.len
   clear hx hcv
   have HBR : Hid (Below wr.heap.size wr wr) := hid (Below.refl _ _)
   go_wp2_with ((with_reducible refine wpList_load_mid rfl 36 _ rfl b (off + k * 4) ?_ cs _ hr Tryz.underlying36 ?_ HL2.out ?_); rfl; rfl)
   refine (HI.out ok x cs.toArray wr (by omega) (HCV.out.bel HBR.out)).mono ?_
   rintro e w4 ⟨⟨X, rfl, hx4⟩, hb4⟩
   have HB34 : Hid (Below wr.heap.size wr w4) := hid (HBR.out.trans (hb4.mono HBR.out.size))
   have HB4 := hid (HB.out.trans (HB34.out.mono hws))
   have hw4 := HB4.out.size
   have HO4 := hid (HO.out.bel HB34.out)
   have HX4 : Hid (CnV w4 (fun b => wr.heap.size ≤ b) X (Pr.simple x)) := hid (hx4.keep fun b hb _ => ⟨Nat.le_trans HBR.out.size hb, rfl⟩)
   clear hx4 hb4
   generalize Pr.simple x = y at *
   generalize Pr.flat op (ks.take k) = F at *
   rw [HFA.out] at hf1
   obtain ⟨A', c', rfl, hry⟩ := HX4.out.open
   have HRY := hid hry
   have hbx := (Below.refl w4.heap.size w4).alloc (Nat.le_refl _) (.cells #[.int .i64 y.op, .string (bstr y.text), .int .i64 y.num, .slice A' y.kids.length c'] 36)
   have HO5 := hid (HO4.out.bel hbx)
   have HB5 := hid (HB4.out.alloc hw4 (.cells #[.int .i64 y.op, .string (bstr y.text), .int .i64 y.num, .slice A' y.kids.length c'] 36))
   have HX5 := hid (HX4.out.bel hbx)
   have HR5 := hid (hry.below hbx)
   have HK5 := hid (Blk.new w4 36 #[.int .i64 y.op, .string (bstr y.text), .int .i64 y.num, .slice A' y.kids.length c'])
   have HS5 : Hid ((Tryz.prog.info? 36).map (·.size) = some (#[.int .i64 y.op, .string (bstr y.text), .int .i64 y.num, .slice A' y.kids.length c'] : Array Value).size) := hid (by rw [size_cond]; rfl)
   have hout4 : ∀ q, (Value.slice A0 F.length c0).ownBlock = some q → q < wr.heap.size := by
    intro q hq
    obtain ⟨xs, h1, _⟩ := HO.out
    exact (h1.lt q hq).2
   clear hry hbx
   have hw5 : w1.heap.size ≤ (w4.alloc (.cells #[.int .i64 y.op, .string (bstr y.text), .int .i64 y.num, .slice A' y.kids.length c'] 36)).heap.size := HB5.out.size
   by_cases hyo : y.op = op
   ·have hsp : Pr.spread op y = y.kids := by unfold Pr.spread; rw [if_pos hyo]
    have hyb : (y.op == op) = true := beq_iff_eq.2 hyo
    rw [hsp] at HFA hf1
    rw [List.length_append] at hf1
    have hlen : F.length + y.kids.length ≤ 100000000000 := by omega
    obtain ⟨xs, hown, hcs⟩ := HO5.out
    obtain ⟨ys, hrd, hone2, hcs2⟩ := HR5.out.rd
    have HCS := hid hcs
    have HCS2 : Hid (CnsV (w4.alloc (.cells #[.int .i64 y.op, .string (bstr y.text), .int .i64 y.num, .slice A' y.kids.length c'] 36)) (fun b => w1.heap.size ≤ b ∧ some b ≠ (Value.slice A0 F.length c0).ownBlock) ys y.kids) := hid (CnsV.keep hcs2 fun b hb _ => ⟨⟨Nat.le_trans hws hb, fun e => by have := hout4 b e.symm; omega⟩, rfl⟩)
    clear hcs hcs2 hyo hsp
    go_wp2_with ((refine app_row rowCn rfl _ _ rfl _ (.slice A0 F.length c0) _ xs ys w1.heap.size rfl hown A' _ _ rfl hrd hone2 hw5 hlen ?_); intro v6 w6 ho6 hg6 hb6 hwh6)
    go_roundw
    case rel => exact ⟨k + 1, hlt, by go_num, by rw [HFA.out]; exact CnO.app hown HCS.out HCS2.out ho6 hg6 hwh6, hb6 _ HB5.out⟩
    case measure => simp [RowKit.intOf]; omega
   ·have hsp : Pr.spread op y = [y] := by unfold Pr.spread; rw [if_neg hyo]
    have hyb : (y.op == op) = false := beq_eq_false_iff_ne.2 hyo
    rw [hsp] at HFA hf1
    rw [List.length_append] at hf1
    have hlen : F.length + 1 ≤ 100000000000 := by simp at hf1; omega
    have hbz := (Below.refl (w4.alloc (.cells #[.int .i64 y.op, .string (bstr y.text), .int .i64 y.num, .slice A' y.kids.length c'] 36)).heap.size (w4.alloc (.cells #[.int .i64 y.op, .string (bstr y.text), .int .i64 y.num, .slice A' y.kids.length c'] 36))).alloc (Nat.le_refl _) (.cells #[.int .i64 y.op, .string (bstr y.text), .int .i64 y.num, .slice A' y.kids.length c'] 36)
    obtain ⟨xs, hown, hcs⟩ := HO5.out.bel hbz
    have HCS := hid hcs
    have HCS2 := hid (CnsV.one ((HX5.out.bel hbz).keep (ok' := fun b => w1.heap.size ≤ b ∧ some b ≠ (Value.slice A0 F.length c0).ownBlock) fun b hb _ => ⟨⟨Nat.le_trans hws hb, fun e => by have := hout4 b e.symm; omega⟩, rfl⟩))
    have hrd : Rd ((w4.alloc (.cells #[.int .i64 y.op, .string (bstr y.text), .int .i64 y.num, .slice A' y.kids.length c'] 36)).alloc (.cells #[.int .i64 y.op, .string (bstr y.text), .int .i64 y.num, .slice A' y.kids.length c'] 36)) (some ⟨w4.heap.size + 1, 0, none⟩) (1 * 4) [.int .i64 y.op, .string (bstr y.text), .int .i64 y.num, .slice A' y.kids.length c'] := by
     have := Rd.of_blk (vs := [.int .i64 y.op, .string (bstr y.text), .int .i64 y.num, .slice A' y.kids.length c']) (Blk.new (w4.alloc (.cells #[.int .i64 y.op, .string (bstr y.text), .int .i64 y.num, .slice A' y.kids.length c'] 36)) 36 #[.int .i64 y.op, .string (bstr y.text), .int .i64 y.num, .slice A' y.kids.length c'])
     rw [World.size_alloc] at this
     exact this
    have hw6 : w1.heap.size ≤ ((w4.alloc (.cells #[.int .i64 y.op, .string (bstr y.text), .int .i64 y.num, .slice A' y.kids.length c'] 36)).alloc (.cells #[.int .i64 y.op, .string (bstr y.text), .int .i64 y.num, .slice A' y.kids.length c'] 36)).heap.size := by rw [World.size_alloc]; omega
    have HB6 := hid (HB5.out.alloc hw5 (.cells #[.int .i64 y.op, .string (bstr y.text), .int .i64 y.num, .slice A' y.kids.length c'] 36))
    have hone2 : ∀ u ∈ ([.int .i64 y.op, .string (bstr y.text), .int .i64 y.num, .slice A' y.kids.length c'] : List Value), u.oneCell' = true := by intro u hu; simp at hu; rcases hu with rfl | rfl | rfl | rfl <;> rfl
    clear hcs hyo hsp hbz
    go_wp2_with (first
     | (refine load_row_u (by rfl) 36 _ rfl w4.heap.size rfl 36 _ (0, 0) _ rfl HK5.out Tryz.underlying36 HS5.out ?_)
     | ((refine app_row rowCn rfl _ _ rfl _ (.slice A0 F.length c0) _ xs _ w1.heap.size rfl hown _ 1 1 rfl hrd hone2 hw6 hlen ?_); intro v6 w6 ho6 hg6 hb6 hwh6))
    go_roundw
    case rel => exact ⟨k + 1, hlt, by go_num, by rw [HFA.out]; exact CnO.app hown HCS.out HCS2.out ho6 hg6 hwh6, hb6 _ HB6.out⟩
    case measure => simp [RowKit.intOf]; omega
  ·obtain rfl : k = ks.length := by omega
   rw [List.take_length] at HO
   obtain ⟨wf, rfl⟩ : ∃ wf, wf = wr := ⟨_, rfl⟩
   obtain ⟨B, cap', rfl, hcap, hrowf⟩ := HO.out.row (ok' := fun b => w1.heap.size ≤ b) (fun b h => h) (fun q hq => by obtain ⟨xs, h1, _⟩ := HO.out; exact (h1.lt q hq).1)
   have HROWf := hid hrowf
   have HBf := hid (HB1.out.trans (HB.out.mono HB1.out.size))
   have HKZf := hid (HKZ.out.below HB.out HKZ.out.lt)
   have HKUf := hid (HKU.out.below HB.out HKU.out.lt)
   have HKRf := hid (HKR.out.below HB.out HKR.out.lt)
   have hs12f : w.heap.size + 3 ≤ wf.heap.size := by have := HSZ.out; omega
   clear hrowf
   obtain ⟨F, hF⟩ : ∃ F, Pr.flat op ks = F := ⟨_, rfl⟩
   have HFE := hid hF
   rw [hF] at HROWf HFM HF6 hcap ⊢
   have HGT := hid (Pr.gath_two op F zero unit)
   have hF6 := HF6.out
   have HHZ0 := rhas_any _ okz zero Z F B cap' wf (by omega) HROWf.out (HZ.out.bel HBf.out) (fun y hy => by have := HFM.out y hy; omega)
   clear hF HKZ HKU HKR HR1 HO
   cases hzf : (F.any fun y => Pr.same y zero) with
   | true =>
    have HFIN : Hid (Pr.gath op F zero unit = zero) := hid (by rw [HGT.out, hzf, if_pos rfl])
    have hZ1 := HZ.out.one
    rw [hzf] at HHZ0
    have HHZ := hid HHZ0
    clear HHZ0 hzf HGT
    go_wp2_with (first
     | (refine load_row_u (by rfl) 36 _ rfl w.heap.size rfl 36 _ (0, 0) _ rfl HKZf.out Tryz.underlying36 HSZ1.out ?_)
     | (go_at_call 85; refine HHZ.out.mono ?_; rintro e w2 ⟨rfl, hb2⟩; have HB2 := hid (HBf.out.trans (hb2.mono HBf.out.size)); have HKZ2 := hid (HKZf.out.below hb2 HKZf.out.lt); have HKR2 := hid (HKRf.out.below hb2 HKRf.out.lt); have hs12' : w.heap.size + 3 ≤ w2.heap.size := (by have := hb2.size; omega); clear hb2)
     | (refine load_row_u (by rfl) 36 _ rfl w.heap.size rfl 36 _ (0, 0) _ rfl HKZ2.out Tryz.underlying36 HSZ1.out ?_)
     | ((with_reducible refine store_row_q rfl 36 _ _ rfl (w.heap.size + 2) Z ?_ ?_ 36 _ HKR2.out HSZ1.out HOZ.out hZ1 ?_); rfl; rfl; intro w9 hk9 hs9 hbl9 hoth9))
    have HB9 : Hid (Below w.heap.size w w9) := hid (HB2.out.trans (hbl9 w.heap.size (by omega)))
    exact bodyPost_ret (v := .agg Z) (results_cell_row rfl _ _ (w.heap.size + 2) 36 _ (0, 0) _ rfl hk9 Tryz.underlying36 rfl HSZ1.out) rfl ⟨⟨_, rfl, by rw [HFE.out, HFIN.out]; exact HZ.out.keep fun b hb hl => ⟨.inl hb, HB9.out.block b hl⟩⟩, HB9.out⟩
   | false =>
    have HGD : Hid (Pr.gath op F zero unit = Pr.gFin op unit (Pr.dedF unit [] F)) := hid (by rw [HGT.out, hzf, if_neg (by decide)])
    rw [hzf] at HHZ0
    have HHZ := hid HHZ0
    clear HHZ0 hzf HGT
    go_wp2_with (first
     | (refine load_row_u (by rfl) 36 _ rfl w.heap.size rfl 36 _ (0, 0) _ rfl HKZf.out Tryz.underlying36 HSZ1.out ?_)
     | (go_at_call 85; refine HHZ.out.mono ?_; rintro e w2 ⟨rfl, hb2⟩))
    have HROW := hid (HROWf.out.below hb2)
    have HB2 := hid (HBf.out.trans (hb2.mono HBf.out.size))
    have HKZ2 := hid (HKZf.out.below hb2 HKZf.out.lt)
    have HKU2 := hid (HKUf.out.below hb2 HKUf.out.lt)
    have HKR2 := hid (HKRf.out.below hb2 HKRf.out.lt)
    have hs12' : w.heap.size + 3 ≤ w2.heap.size := by have := hb2.size; omega
    have hs12 : w1.heap.size ≤ w2.heap.size := by have := hb2.size; omega
    clear hb2 HROWf HBf HKZf HKUf HKRf
    obtain ⟨wg, rfl⟩ : ∃ wg, wg = w2 := ⟨_, rfl⟩
    go_loopw [12, 13] (fun out ix wr => ∃ (k : Nat) (G : List Pr.Cn), k ≤ F.length ∧ ix = .int .i64 (k : Int) ∧ Pr.dedF unit [] F = Pr.dedF unit G (F.drop k) ∧ G.length ≤ k ∧ (∀ c ∈ G, c ∈ F) ∧ CnO wr wg.heap.size (fun b => w1.heap.size ≤ b) out G ∧ Below wg.heap.size wg wr) (fun _ ix _ => F.length - (RowKit.intOf ix).toNat)
    case atStart => exact ⟨0, [], Nat.zero_le _, rfl, rfl, Nat.le_refl _, (fun c h => by cases h), CnO.nil, Below.refl _ _⟩
    case round =>
     obtain ⟨k, G, hk, rfl, hg, hgl, hgm, ho, hb⟩ := hrel
     have HG := hid hg
     have HGM := hid hgm
     have HO := hid ho
     have HB := hid hb
     have hws := hb.size
     have HKZ := hid (HKZ2.out.below hb HKZ2.out.lt)
     have HKU := hid (HKU2.out.below hb HKU2.out.lt)
     have HKR := hid (HKR2.out.below hb HKR2.out.lt)
     have HUr := hid (HU.out.bel (HB2.out.trans (hb.mono HB2.out.size)))
     have HBr := hid (HB2.out.trans (hb.mono HB2.out.size))
     obtain ⟨A0, c0, rfl, hc0⟩ := HO.out.len
     have hownlt : ∀ q, (Value.slice A0 G.length c0).ownBlock = some q → wg.heap.size ≤ q ∧ q < wr.heap.size := by
      intro q hq
      obtain ⟨xs, h1, _⟩ := HO.out
      exact h1.lt q hq
     clear ho hb hg hgm
     by_cases hlt : k < F.length
     ·obtain ⟨x, hx⟩ : ∃ x, F[k]? = some x := ⟨_, List.getElem?_eq_getElem hlt⟩
      obtain ⟨b, off, cs, rfl, hok, hr2, hcl, hcv⟩ := HROW.out k x hx
      have hr : wr.rangeAt b (off + k * 4) cs := range_keep hr2 (HB.out.block _ (range_lt hr2 (by omega)))
      have HCV : Hid (CnV wr (fun b => w1.heap.size ≤ b ∧ b < wg.heap.size) cs.toArray x) := hid (hcv.keep fun b hb hl => ⟨⟨hb, hl⟩, HB.out.block b hl⟩)
      have HST := hid (Pr.dedF_step (unit := unit) (out := G) hx)
      have HXM := hid (List.mem_of_getElem? hx)
      have hnx := HFM.out x (List.mem_of_getElem? hx)
      obtain ⟨A', c', hcse, -⟩ := HCV.out.open
      have hcse2 : cs = [.int .i64 x.op, .string (bstr x.text), .int .i64 x.num, .slice A' x.kids.length c'] := by have := congrArg Array.toList hcse; simpa using this
      subst hcse2
      have HL2 : Hid ((Tryz.prog.info? 36).map (·.size) = some ([.int .i64 x.op, .string (bstr x.text), .int .i64 x.num, .slice A' x.kids.length c'] : List Value).length) := hid (by rw [size_cond]; rfl)
      have hkI : (k : Int) < (F.length : Int) := by omega
      have hbl := range_lt hr (by omega)
      have HS : Hid (wr.rangeAt b (off + k * 4) [.int .i64 x.op, .string (bstr x.text), .int .i64 x.num, .slice A' x.kids.length c'] ∧ Blk wr (w.heap.size + 1) 36 U) := hid ⟨hr, HKU.out⟩
      obtain ⟨A1, c1, e1, hc1, hrowG⟩ := HO.out.row (ok' := fun b => w1.heap.size ≤ b) (fun b h => h) (fun q hq => by have := hownlt q hq; omega)
      injection e1 with e1 e2 e3
      subst e1 e3
      have HRG := hid hrowG
      have HSU := rsame_any (Pr.nodes x) _ oku x unit #[.int .i64 x.op, .string (bstr x.text), .int .i64 x.num, .slice A' x.kids.length c'] U wr.drew (Nat.le_refl _) (by omega) (HCV.out.bel (Below.refl _ _).drew) (HUr.out.bel (Below.refl _ _).drew)
      clear hx hcv hcse hr2 hr hrowG e2
      cases hsu : Pr.same x unit with
      | true =>
       rw [hsu] at HSU
       have HSM := hid HSU
       have HG2 : Hid (Pr.dedF unit [] F = Pr.dedF unit G (F.drop (k + 1))) := hid (by rw [HG.out, HST.out, hsu, if_neg (by simp)])
       clear hsu HSU
       go_wp2_with fail
       refine wp_region_noPanic ?_
       refine wp_region_held_drew (S := fun W => W.rangeAt b (off + k * 4) [.int .i64 x.op, .string (bstr x.text), .int .i64 x.num, .slice A' x.kids.length c'] ∧ Blk W (w.heap.size + 1) 36 U) (by kernel_rfl) (HS.out) (fun hHeld => ?_)
       refine wpAnyH_take (i := 0) (oi := _) (v := ?_) rfl (by kernel_rfl) (by kernel_rfl) (by kernel_rfl) (fun _ _ _ h => h) (Or.inl ⟨by kernel_rfl, ?_⟩) hHeld ?_
       rotate_left
       ·intro wq hSw
        go_simp
        (try with_reducible rfl)
       (try simp only [Act.put, List.getElem_toArray, List.getElem_cons_zero, List.getElem_cons_succ, List.setIfInBounds_toArray, List.set_cons_zero, List.set_cons_succ])
       refine wpAnyH_take (i := 1) (oi := _) (v := ?_) rfl (by kernel_rfl) (by kernel_rfl) (by kernel_rfl) (fun _ _ _ h => h) (Or.inl ⟨by kernel_rfl, ?_⟩) hHeld ?_
       rotate_left
       ·intro wq hSw
        go_simp
        (try with_reducible rfl)
       (try simp only [Act.put, List.getElem_toArray, List.getElem_cons_zero, List.getElem_cons_succ, List.setIfInBounds_toArray, List.set_cons_zero, List.set_cons_succ])
       refine wpAnyH_take (i := 2) (oi := _) (v := ?_) rfl (by kernel_rfl) (by kernel_rfl) (by kernel_rfl) (fun _ _ _ h => h) (Or.inl ⟨by kernel_rfl, ?_⟩) hHeld ?_
       rotate_left
       ·intro wq hSw
        go_simp
        (try with_reducible rfl)
       (try simp only [Act.put, List.getElem_toArray, List.getElem_cons_zero, List.getElem_cons_succ, List.setIfInBounds_toArray, List.set_cons_zero, List.set_cons_succ])
       refine wpAnyH_take (i := 3) (oi := _) (v := _) rfl (by kernel_rfl) (by kernel_rfl) (by kernel_rfl) (fun _ _ _ h => h) (mid_yields rfl Tryz.underlying36 HL2.out (fun W h => h.1) (by kernel_rfl) _ rfl rfl) hHeld ?_
       (try simp only [Act.put, List.getElem_toArray, List.getElem_cons_zero, List.getElem_cons_succ, List.setIfInBounds_toArray, List.set_cons_zero, List.set_cons_succ])
       refine wpAnyH_take (i := 4) (oi := _) (v := _) rfl (by kernel_rfl) (by kernel_rfl) (by kernel_rfl) (fun _ _ _ h => h) (row_yields_u (X := U) rfl Tryz.underlying36 HSU1.out (fun W h => h.2) (by kernel_rfl) _ rfl rfl) hHeld ?_
       (try simp only [Act.put, List.getElem_toArray, List.getElem_cons_zero, List.getElem_cons_succ, List.setIfInBounds_toArray, List.set_cons_zero, List.set_cons_succ])
       refine wpAnyH_ready (rs := [5]) (by kernel_rfl) (by simp) ?_
       refine AllReadyH.cons (o := _) rfl (fun K hK => ?_) AllReadyH.nil
       go_simp
       go_at_call 17
       refine HSM.out.mono ?_
       rintro e w4 ⟨rfl, hb4⟩
       have hn4 : Below wr.heap.size wr w4 := (Below.refl wr.heap.size wr).drew.trans hb4
       have HN4 := hid hn4
       have HB4 := hid (HB.out.trans (hn4.mono hws))
       refine hK.out _ _ (⟨range_keep HS.out.1 (hn4.block _ hbl), HS.out.2.below hn4 HS.out.2.lt⟩) (fun hHeld2 => ?_)
       clear hK K hHeld
       have hHeld := hHeld2
       clear hHeld2
       (try simp only [Act.put, List.getElem_toArray, List.getElem_cons_zero, List.getElem_cons_succ, List.setIfInBounds_toArray, List.set_cons_zero, List.set_cons_succ])
       refine wpAnyH_take (i := 6) (oi := _) (v := ?_) rfl (by kernel_rfl) (by kernel_rfl) (by kernel_rfl) (fun _ _ _ h => h) (Or.inl ⟨by kernel_rfl, ?_⟩) hHeld ?_
       rotate_left
       ·intro wq hSw
        go_simp
        (try with_reducible rfl)
       (try simp only [Act.put, List.getElem_toArray, List.getElem_cons_zero, List.getElem_cons_succ, List.setIfInBounds_toArray, List.set_cons_zero, List.set_cons_succ])
       refine wpAnyH_take (i := 7) (oi := _) (v := ?_) rfl (by kernel_rfl) (by kernel_rfl) (by kernel_rfl) (fun _ _ _ h => h) (Or.inl ⟨by kernel_rfl, ?_⟩) hHeld ?_
       rotate_left
       ·intro wq hSw
        go_simp
        (try with_reducible rfl)
       (try simp only [Act.put, List.getElem_toArray, List.getElem_cons_zero, List.getElem_cons_succ, List.setIfInBounds_toArray, List.set_cons_zero, List.set_cons_succ])
       refine wpAnyH_take (i := 8) (oi := _) (v := undef) rfl (by kernel_rfl) (by kernel_rfl) (by kernel_rfl) (fun _ _ _ h => h) (Or.inr ⟨by kernel_rfl, rfl⟩) hHeld ?_
       (try simp only [Act.put, List.getElem_toArray, List.getElem_cons_zero, List.getElem_cons_succ, List.setIfInBounds_toArray, List.set_cons_zero, List.set_cons_succ])
       refine wpAnyH_take (i := 9) (oi := _) (v := undef) rfl (by kernel_rfl) (by kernel_rfl) (by kernel_rfl) (fun _ _ _ h => h) (Or.inr ⟨by kernel_rfl, rfl⟩) hHeld ?_
       (try simp only [Act.put, List.getElem_toArray, List.getElem_cons_zero, List.getElem_cons_succ, List.setIfInBounds_toArray, List.set_cons_zero, List.set_cons_succ])
       refine wpAnyH_take (i := 10) (oi := _) (v := undef) rfl (by kernel_rfl) (by kernel_rfl) (by kernel_rfl) (fun _ _ _ h => h) (Or.inr ⟨by kernel_rfl, rfl⟩) hHeld ?_
       (try simp only [Act.put, List.getElem_toArray, List.getElem_cons_zero, List.getElem_cons_succ, List.setIfInBounds_toArray, List.set_cons_zero, List.set_cons_succ])
       refine wpAnyH_take (i := 11) (oi := _) (v := undef) rfl (by kernel_rfl) (by kernel_rfl) (by kernel_rfl) (fun _ _ _ h => h) (Or.inr ⟨by kernel_rfl, rfl⟩) hHeld ?_
       (try simp only [Act.put, List.getElem_toArray, List.getElem_cons_zero, List.getElem_cons_succ, List.setIfInBounds_toArray, List.set_cons_zero, List.set_cons_succ])
       refine wpAnyH_take (i := 12) (oi := _) (v := undef) rfl (by kernel_rfl) (by kernel_rfl) (by kernel_rfl) (fun _ _ _ h => h) (Or.inr ⟨by kernel_rfl, rfl⟩) hHeld ?_
       (try simp only [Act.put, List.getElem_toArray, List.getElem_cons_zero, List.getElem_cons_succ, List.setIfInBounds_toArray, List.set_cons_zero, List.set_cons_succ])
       refine wpAnyH_take (i := 13) (oi := _) (v := undef) rfl (by kernel_rfl) (by kernel_rfl) (by kernel_rfl) (fun _ _ _ h => h) (Or.inr ⟨by kernel_rfl, rfl⟩) hHeld ?_
       (try simp only [Act.put, List.getElem_toArray, List.getElem_cons_zero, List.getElem_cons_succ, List.setIfInBounds_toArray, List.set_cons_zero, List.set_cons_succ])
       refine wpAnyH_take (i := 14) (oi := _) (v := undef) rfl (by kernel_rfl) (by kernel_rfl) (by kernel_rfl) (fun _ _ _ h => h) (Or.inr ⟨by kernel_rfl, rfl⟩) hHeld ?_
       (try simp only [Act.put, List.getElem_toArray, List.getElem_cons_zero, List.getElem_cons_succ, List.setIfInBounds_toArray, List.set_cons_zero, List.set_cons_succ])
       refine wpAnyH_take (i := 15) (oi := _) (v := ?_) rfl (by kernel_rfl) (by kernel_rfl) (by kernel_rfl) (fun _ _ _ h => h) (Or.inl ⟨by kernel_rfl, ?_⟩) hHeld ?_
       rotate_left
       ·intro wq hSw
        go_simp
        (try with_reducible rfl)
       (try simp only [Act.put, List.getElem_toArray, List.getElem_cons_zero, List.getElem_cons_succ, List.setIfInBounds_toArray, List.set_cons_zero, List.set_cons_succ])
       refine wpAnyH_done (by kernel_rfl) ?_ _
       refine NoPanic.normal ?_
       go_wp2_with fail
       go_roundw
       case rel => exact ⟨k + 1, G, hlt, by go_num, HG2.out, by omega, HGM.out, HO.out.bel HN4.out, HB4.out⟩
       case measure => simp [RowKit.intOf]; omega
      | false =>
       rw [hsu] at HSU
       have HSM := hid HSU
       clear HSU
       cases hin : (G.any fun y => Pr.same y x) with
       | true =>
        have HG2 : Hid (Pr.dedF unit [] F = Pr.dedF unit G (F.drop (k + 1))) := hid (by rw [HG.out, HST.out, hsu, hin, if_neg (by simp)])
        clear hsu
        go_wp2_with fail
        refine wp_region_noPanic ?_
        refine wp_region_held_drew (S := fun W => W.rangeAt b (off + k * 4) [.int .i64 x.op, .string (bstr x.text), .int .i64 x.num, .slice A' x.kids.length c'] ∧ Blk W (w.heap.size + 1) 36 U) (by kernel_rfl) (HS.out) (fun hHeld => ?_)
        refine wpAnyH_take (i := 0) (oi := _) (v := ?_) rfl (by kernel_rfl) (by kernel_rfl) (by kernel_rfl) (fun _ _ _ h => h) (Or.inl ⟨by kernel_rfl, ?_⟩) hHeld ?_
        rotate_left
        ·intro wq hSw
         go_simp
         (try with_reducible rfl)
        (try simp only [Act.put, List.getElem_toArray, List.getElem_cons_zero, List.getElem_cons_succ, List.setIfInBounds_toArray, List.set_cons_zero, List.set_cons_succ])
        refine wpAnyH_take (i := 1) (oi := _) (v := ?_) rfl (by kernel_rfl) (by kernel_rfl) (by kernel_rfl) (fun _ _ _ h => h) (Or.inl ⟨by kernel_rfl, ?_⟩) hHeld ?_
        rotate_left
        ·intro wq hSw
         go_simp
         (try with_reducible rfl)
        (try simp only [Act.put, List.getElem_toArray, List.getElem_cons_zero, List.getElem_cons_succ, List.setIfInBounds_toArray, List.set_cons_zero, List.set_cons_succ])
        refine wpAnyH_take (i := 2) (oi := _) (v := ?_) rfl (by kernel_rfl) (by kernel_rfl) (by kernel_rfl) (fun _ _ _ h => h) (Or.inl ⟨by kernel_rfl, ?_⟩) hHeld ?_
        rotate_left
        ·intro wq hSw
         go_simp
         (try with_reducible rfl)
        (try simp only [Act.put, List.getElem_toArray, List.getElem_cons_zero, List.getElem_cons_succ, List.setIfInBounds_toArray, List.set_cons_zero, List.set_cons_succ])
        refine wpAnyH_take (i := 3) (oi := _) (v := _) rfl (by kernel_rfl) (by kernel_rfl) (by kernel_rfl) (fun _ _ _ h => h) (mid_yields rfl Tryz.underlying36 HL2.out (fun W h => h.1) (by kernel_rfl) _ rfl rfl) hHeld ?_
        (try simp only [Act.put, List.getElem_toArray, List.getElem_cons_zero, List.getElem_cons_succ, List.setIfInBounds_toArray, List.set_cons_zero, List.set_cons_succ])
        refine wpAnyH_take (i := 4) (oi := _) (v := _) rfl (by kernel_rfl) (by kernel_rfl) (by kernel_rfl) (fun _ _ _ h => h) (row_yields_u (X := U) rfl Tryz.underlying36 HSU1.out (fun W h => h.2) (by kernel_rfl) _ rfl rfl) hHeld ?_
        (try simp only [Act.put, List.getElem_toArray, List.getElem_cons_zero, List.getElem_cons_succ, List.setIfInBounds_toArray, List.set_cons_zero, List.set_cons_succ])
        refine wpAnyH_ready (rs := [5]) (by kernel_rfl) (by simp) ?_
        refine AllReadyH.cons (o := _) rfl (fun K hK => ?_) AllReadyH.nil
        go_simp
        go_at_call 17
        refine HSM.out.mono ?_
        rintro e w4 ⟨rfl, hb4⟩
        have hn4 : Below wr.heap.size wr w4 := (Below.refl wr.heap.size wr).drew.trans hb4
        have HN4 := hid hn4
        have HB4 := hid (HB.out.trans (hn4.mono hws))
        refine hK.out _ _ (⟨range_keep HS.out.1 (hn4.block _ hbl), HS.out.2.below hn4 HS.out.2.lt⟩) (fun hHeld2 => ?_)
        clear hK K hHeld
        have hHeld := hHeld2
        clear hHeld2
        (try simp only [Act.put, List.getElem_toArray, List.getElem_cons_zero, List.getElem_cons_succ, List.setIfInBounds_toArray, List.set_cons_zero, List.set_cons_succ])
        refine wpAnyH_take (i := 6) (oi := _) (v := ?_) rfl (by kernel_rfl) (by kernel_rfl) (by kernel_rfl) (fun _ _ _ h => h) (Or.inl ⟨by kernel_rfl, ?_⟩) hHeld ?_
        rotate_left
        ·intro wq hSw
         go_simp
         (try with_reducible rfl)
        (try simp only [Act.put, List.getElem_toArray, List.getElem_cons_zero, List.getElem_cons_succ, List.setIfInBounds_toArray, List.set_cons_zero, List.set_cons_succ])
        refine wpAnyH_take (i := 7) (oi := _) (v := ?_) rfl (by kernel_rfl) (by kernel_rfl) (by kernel_rfl) (fun _ _ _ h => h) (Or.inl ⟨by kernel_rfl, ?_⟩) hHeld ?_
        rotate_left
        ·intro wq hSw
         go_simp
         (try with_reducible rfl)
        (try simp only [Act.put, List.getElem_toArray, List.getElem_cons_zero, List.getElem_cons_succ, List.setIfInBounds_toArray, List.set_cons_zero, List.set_cons_succ])
        refine wpAnyH_take (i := 8) (oi := _) (v := ?_) rfl (by kernel_rfl) (by kernel_rfl) (by kernel_rfl) (fun _ _ _ h => h) (Or.inl ⟨by kernel_rfl, ?_⟩) hHeld ?_
        rotate_left
        ·intro wq hSw
         go_simp
         (try with_reducible rfl)
        (try simp only [Act.put, List.getElem_toArray, List.getElem_cons_zero, List.getElem_cons_succ, List.setIfInBounds_toArray, List.set_cons_zero, List.set_cons_succ])
        refine wpAnyH_take (i := 9) (oi := _) (v := ?_) rfl (by kernel_rfl) (by kernel_rfl) (by kernel_rfl) (fun _ _ _ h => h) (Or.inl ⟨by kernel_rfl, ?_⟩) hHeld ?_
        rotate_left
        ·intro wq hSw
         go_simp
         (try with_reducible rfl)
        (try simp only [Act.put, List.getElem_toArray, List.getElem_cons_zero, List.getElem_cons_succ, List.setIfInBounds_toArray, List.set_cons_zero, List.set_cons_succ])
        refine wpAnyH_take (i := 10) (oi := _) (v := ?_) rfl (by kernel_rfl) (by kernel_rfl) (by kernel_rfl) (fun _ _ _ h => h) (Or.inl ⟨by kernel_rfl, ?_⟩) hHeld ?_
        rotate_left
        ·intro wq hSw
         go_simp
         (try with_reducible rfl)
        (try simp only [Act.put, List.getElem_toArray, List.getElem_cons_zero, List.getElem_cons_succ, List.setIfInBounds_toArray, List.set_cons_zero, List.set_cons_succ])
        refine wpAnyH_take (i := 11) (oi := _) (v := ?_) rfl (by kernel_rfl) (by kernel_rfl) (by kernel_rfl) (fun _ _ _ h => h) (Or.inl ⟨by kernel_rfl, ?_⟩) hHeld ?_
        rotate_left
        ·intro wq hSw
         go_simp
         (try with_reducible rfl)
        (try simp only [Act.put, List.getElem_toArray, List.getElem_cons_zero, List.getElem_cons_succ, List.setIfInBounds_toArray, List.set_cons_zero, List.set_cons_succ])
        refine wpAnyH_take (i := 12) (oi := _) (v := _) rfl (by kernel_rfl) (by kernel_rfl) (by kernel_rfl) (fun _ _ _ h => h) (mid_yields rfl Tryz.underlying36 HL2.out (fun W h => h.1) (by kernel_rfl) _ rfl rfl) hHeld ?_
        (try simp only [Act.put, List.getElem_toArray, List.getElem_cons_zero, List.getElem_cons_succ, List.setIfInBounds_toArray, List.set_cons_zero, List.set_cons_succ])
        refine wpAnyH_ready (rs := [13]) (by kernel_rfl) (by simp) ?_
        refine AllReadyH.cons (o := _) rfl (fun K hK => ?_) AllReadyH.nil
        go_simp
        go_at_call 85
        have HHG := rhas_any _ _ x #[.int .i64 x.op, .string (bstr x.text), .int .i64 x.num, .slice A' x.kids.length c'] G A0 c0 w4 (by omega) (HRG.out.below HN4.out) (HCV.out.bel HN4.out) (fun y hy => by have := HFM.out y (HGM.out y hy); omega)
        rw [hin] at HHG
        refine HHG.mono ?_
        rintro e w6 ⟨rfl, hb6⟩
        have hn6 : Below wr.heap.size wr w6 := HN4.out.trans (hb6.mono HN4.out.size)
        have HN6 := hid hn6
        have HB6 := hid (HB.out.trans (hn6.mono hws))
        refine hK.out _ _ (⟨range_keep HS.out.1 (hn6.block _ hbl), HS.out.2.below hn6 HS.out.2.lt⟩) (fun hHeld2 => ?_)
        clear hK K hHeld
        have hHeld := hHeld2
        clear hHeld2
        (try simp only [Act.put, List.getElem_toArray, List.getElem_cons_zero, List.getElem_cons_succ, List.setIfInBounds_toArray, List.set_cons_zero, List.set_cons_succ])
        refine wpAnyH_take (i := 14) (oi := _) (v := ?_) rfl (by kernel_rfl) (by kernel_rfl) (by kernel_rfl) (fun _ _ _ h => h) (Or.inl ⟨by kernel_rfl, ?_⟩) hHeld ?_
        rotate_left
        ·intro wq hSw
         go_simp
         (try with_reducible rfl)
        (try simp only [Act.put, List.getElem_toArray, List.getElem_cons_zero, List.getElem_cons_succ, List.setIfInBounds_toArray, List.set_cons_zero, List.set_cons_succ])
        refine wpAnyH_take (i := 15) (oi := _) (v := ?_) rfl (by kernel_rfl) (by kernel_rfl) (by kernel_rfl) (fun _ _ _ h => h) (Or.inl ⟨by kernel_rfl, ?_⟩) hHeld ?_
        rotate_left
        ·intro wq hSw
         go_simp
         (try with_reducible rfl)
        (try simp only [Act.put, List.getElem_toArray, List.getElem_cons_zero, List.getElem_cons_succ, List.setIfInBounds_toArray, List.set_cons_zero, List.set_cons_succ])
        refine wpAnyH_done (by kernel_rfl) ?_ _
        refine NoPanic.normal ?_
        go_wp2_with fail
        go_roundw
        case rel => exact ⟨k + 1, G, hlt, by go_num, HG2.out, by omega, HGM.out, HO.out.bel HN6.out, HB6.out⟩
        case measure => simp [RowKit.intOf]; omega
       | false =>
        have HG2 : Hid (Pr.dedF unit [] F = Pr.dedF unit (G ++ [x]) (F.drop (k + 1))) := hid (by rw [HG.out, HST.out, hsu, hin, if_pos ⟨rfl, rfl⟩])
        clear hsu
        go_wp2_with fail
        refine wp_region_noPanic ?_
        refine wp_region_held_drew (S := fun W => W.rangeAt b (off + k * 4) [.int .i64 x.op, .string (bstr x.text), .int .i64 x.num, .slice A' x.kids.length c'] ∧ Blk W (w.heap.size + 1) 36 U) (by kernel_rfl) (HS.out) (fun hHeld => ?_)
        refine wpAnyH_take (i := 0) (oi := _) (v := ?_) rfl (by kernel_rfl) (by kernel_rfl) (by kernel_rfl) (fun _ _ _ h => h) (Or.inl ⟨by kernel_rfl, ?_⟩) hHeld ?_
        rotate_left
        ·intro wq hSw
         go_simp
         (try with_reducible rfl)
        (try simp only [Act.put, List.getElem_toArray, List.getElem_cons_zero, List.getElem_cons_succ, List.setIfInBounds_toArray, List.set_cons_zero, List.set_cons_succ])
        refine wpAnyH_take (i := 1) (oi := _) (v := ?_) rfl (by kernel_rfl) (by kernel_rfl) (by kernel_rfl) (fun _ _ _ h => h) (Or.inl ⟨by kernel_rfl, ?_⟩) hHeld ?_
        rotate_left
        ·intro wq hSw
         go_simp
         (try with_reducible rfl)
        (try simp only [Act.put, List.getElem_toArray, List.getElem_cons_zero, List.getElem_cons_succ, List.setIfInBounds_toArray, List.set_cons_zero, List.set_cons_succ])
        refine wpAnyH_take (i := 2) (oi := _) (v := ?_) rfl (by kernel_rfl) (by kernel_rfl) (by kernel_rfl) (fun _ _ _ h => h) (Or.inl ⟨by kernel_rfl, ?_⟩) hHeld ?_
        rotate_left
        ·intro wq hSw
         go_simp
         (try with_reducible rfl)
        (try simp only [Act.put, List.getElem_toArray, List.getElem_cons_zero, List.getElem_cons_succ, List.setIfInBounds_toArray, List.set_cons_zero, List.set_cons_succ])
        refine wpAnyH_take (i := 3) (oi := _) (v := _) rfl (by kernel_rfl) (by kernel_rfl) (by kernel_rfl) (fun _ _ _ h => h) (mid_yields rfl Tryz.underlying36 HL2.out (fun W h => h.1) (by kernel_rfl) _ rfl rfl) hHeld ?_
        (try simp only [Act.put, List.getElem_toArray, List.getElem_cons_zero, List.getElem_cons_succ, List.setIfInBounds_toArray, List.set_cons_zero, List.set_cons_succ])
        refine wpAnyH_take (i := 4) (oi := _) (v := _) rfl (by kernel_rfl) (by kernel_rfl) (by kernel_rfl) (fun _ _ _ h => h) (row_yields_u (X := U) rfl Tryz.underlying36 HSU1.out (fun W h => h.2) (by kernel_rfl) _ rfl rfl) hHeld ?_
        (try simp only [Act.put, List.getElem_toArray, List.getElem_cons_zero, List.getElem_cons_succ, List.setIfInBounds_toArray, List.set_cons_zero, List.set_cons_succ])
        refine wpAnyH_ready (rs := [5]) (by kernel_rfl) (by simp) ?_
        refine AllReadyH.cons (o := _) rfl (fun K hK => ?_) AllReadyH.nil
        go_simp
        go_at_call 17
        refine HSM.out.mono ?_
        rintro e w4 ⟨rfl, hb4⟩
        have hn4 : Below wr.heap.size wr w4 := (Below.refl wr.heap.size wr).drew.trans hb4
        have HN4 := hid hn4
        have HB4 := hid (HB.out.trans (hn4.mono hws))
        refine hK.out _ _ (⟨range_keep HS.out.1 (hn4.block _ hbl), HS.out.2.below hn4 HS.out.2.lt⟩) (fun hHeld2 => ?_)
        clear hK K hHeld
        have hHeld := hHeld2
        clear hHeld2
        (try simp only [Act.put, List.getElem_toArray, List.getElem_cons_zero, List.getElem_cons_succ, List.setIfInBounds_toArray, List.set_cons_zero, List.set_cons_succ])
        refine wpAnyH_take (i := 6) (oi := _) (v := ?_) rfl (by kernel_rfl) (by kernel_rfl) (by kernel_rfl) (fun _ _ _ h => h) (Or.inl ⟨by kernel_rfl, ?_⟩) hHeld ?_
        rotate_left
        ·intro wq hSw
         go_simp
         (try with_reducible rfl)
        (try simp only [Act.put, List.getElem_toArray, List.getElem_cons_zero, List.getElem_cons_succ, List.setIfInBounds_toArray, List.set_cons_zero, List.set_cons_succ])
        refine wpAnyH_take (i := 7) (oi := _) (v := ?_) rfl (by kernel_rfl) (by kernel_rfl) (by kernel_rfl) (fun _ _ _ h => h) (Or.inl ⟨by kernel_rfl, ?_⟩) hHeld ?_
        rotate_left
        ·intro wq hSw
         go_simp
         (try with_reducible rfl)
        (try simp only [Act.put, List.getElem_toArray, List.getElem_cons_zero, List.getElem_cons_succ, List.setIfInBounds_toArray, List.set_cons_zero, List.set_cons_succ])
        refine wpAnyH_take (i := 8) (oi := _) (v := ?_) rfl (by kernel_rfl) (by kernel_rfl) (by kernel_rfl) (fun _ _ _ h => h) (Or.inl ⟨by kernel_rfl, ?_⟩) hHeld ?_
        rotate_left
        ·intro wq hSw
         go_simp
         (try with_reducible rfl)
        (try simp only [Act.put, List.getElem_toArray, List.getElem_cons_zero, List.getElem_cons_succ, List.setIfInBounds_toArray, List.set_cons_zero, List.set_cons_succ])
        refine wpAnyH_take (i := 9) (oi := _) (v := ?_) rfl (by kernel_rfl) (by kernel_rfl) (by kernel_rfl) (fun _ _ _ h => h) (Or.inl ⟨by kernel_rfl, ?_⟩) hHeld ?_
        rotate_left
        ·intro wq hSw
         go_simp
         (try with_reducible rfl)
        (try simp only [Act.put, List.getElem_toArray, List.getElem_cons_zero, List.getElem_cons_succ, List.setIfInBounds_toArray, List.set_cons_zero, List.set_cons_succ])
        refine wpAnyH_take (i := 10) (oi := _) (v := ?_) rfl (by kernel_rfl) (by kernel_rfl) (by kernel_rfl) (fun _ _ _ h => h) (Or.inl ⟨by kernel_rfl, ?_⟩) hHeld ?_
        rotate_left
        ·intro wq hSw
         go_simp
         (try with_reducible rfl)
        (try simp only [Act.put, List.getElem_toArray, List.getElem_cons_zero, List.getElem_cons_succ, List.setIfInBounds_toArray, List.set_cons_zero, List.set_cons_succ])
        refine wpAnyH_take (i := 11) (oi := _) (v := ?_) rfl (by kernel_rfl) (by kernel_rfl) (by kernel_rfl) (fun _ _ _ h => h) (Or.inl ⟨by kernel_rfl, ?_⟩) hHeld ?_
        rotate_left
        ·intro wq hSw
         go_simp
         (try with_reducible rfl)
        (try simp only [Act.put, List.getElem_toArray, List.getElem_cons_zero, List.getElem_cons_succ, List.setIfInBounds_toArray, List.set_cons_zero, List.set_cons_succ])
        refine wpAnyH_take (i := 12) (oi := _) (v := _) rfl (by kernel_rfl) (by kernel_rfl) (by kernel_rfl) (fun _ _ _ h => h) (mid_yields rfl Tryz.underlying36 HL2.out (fun W h => h.1) (by kernel_rfl) _ rfl rfl) hHeld ?_
        (try simp only [Act.put, List.getElem_toArray, List.getElem_cons_zero, List.getElem_cons_succ, List.setIfInBounds_toArray, List.set_cons_zero, List.set_cons_succ])
        refine wpAnyH_ready (rs := [13]) (by kernel_rfl) (by simp) ?_
        refine AllReadyH.cons (o := _) rfl (fun K hK => ?_) AllReadyH.nil
        go_simp
        go_at_call 85
        have HHG := rhas_any _ _ x #[.int .i64 x.op, .string (bstr x.text), .int .i64 x.num, .slice A' x.kids.length c'] G A0 c0 w4 (by omega) (HRG.out.below HN4.out) (HCV.out.bel HN4.out) (fun y hy => by have := HFM.out y (HGM.out y hy); omega)
        rw [hin] at HHG
        refine HHG.mono ?_
        rintro e w6 ⟨rfl, hb6⟩
        have hn6 : Below wr.heap.size wr w6 := HN4.out.trans (hb6.mono HN4.out.size)
        have HN6 := hid hn6
        have HB6 := hid (HB.out.trans (hn6.mono hws))
        refine hK.out _ _ (⟨range_keep HS.out.1 (hn6.block _ hbl), HS.out.2.below hn6 HS.out.2.lt⟩) (fun hHeld2 => ?_)
        clear hK K hHeld
        have hHeld := hHeld2
        clear hHeld2
        (try simp only [Act.put, List.getElem_toArray, List.getElem_cons_zero, List.getElem_cons_succ, List.setIfInBounds_toArray, List.set_cons_zero, List.set_cons_succ])
        refine wpAnyH_take (i := 14) (oi := _) (v := ?_) rfl (by kernel_rfl) (by kernel_rfl) (by kernel_rfl) (fun _ _ _ h => h) (Or.inl ⟨by kernel_rfl, ?_⟩) hHeld ?_
        rotate_left
        ·intro wq hSw
         go_simp
         (try with_reducible rfl)
        (try simp only [Act.put, List.getElem_toArray, List.getElem_cons_zero, List.getElem_cons_succ, List.setIfInBounds_toArray, List.set_cons_zero, List.set_cons_succ])
        refine wpAnyH_take (i := 15) (oi := _) (v := ?_) rfl (by kernel_rfl) (by kernel_rfl) (by kernel_rfl) (fun _ _ _ h => h) (Or.inl ⟨by kernel_rfl, ?_⟩) hHeld ?_
        rotate_left
        ·intro wq hSw
         go_simp
         (try with_reducible rfl)
        (try simp only [Act.put, List.getElem_toArray, List.getElem_cons_zero, List.getElem_cons_succ, List.setIfInBounds_toArray, List.set_cons_zero, List.set_cons_succ])
        refine wpAnyH_done (by kernel_rfl) ?_ _
        refine NoPanic.normal ?_
        have HO6 := hid (HO.out.bel HN6.out)
        have HCV6 := hid (HCV.out.bel HN6.out)
        have hr6 := hHeld.1
        have hs6 : wg.heap.size ≤ w6.heap.size := HB6.out.size
        have hbz := (Below.refl w6.heap.size w6).alloc (Nat.le_refl _) (.cells #[.int .i64 x.op, .string (bstr x.text), .int .i64 x.num, .slice A' x.kids.length c'] 36)
        obtain ⟨xs, hown, hcs⟩ := HO6.out.bel hbz
        have HCS := hid hcs
        have HCS2 := hid (CnsV.one ((HCV6.out.bel hbz).keep (ok' := fun b => w1.heap.size ≤ b ∧ some b ≠ (Value.slice A0 G.length c0).ownBlock) fun b hb _ => ⟨⟨hb.1, fun e => by have := (hownlt b e.symm).1; omega⟩, rfl⟩))
        have hrd := Rd.of_blk (vs := [.int .i64 x.op, .string (bstr x.text), .int .i64 x.num, .slice A' x.kids.length c']) (Blk.new w6 36 #[.int .i64 x.op, .string (bstr x.text), .int .i64 x.num, .slice A' x.kids.length c'])
        have HB7 := hid (HB6.out.alloc hs6 (.cells #[.int .i64 x.op, .string (bstr x.text), .int .i64 x.num, .slice A' x.kids.length c'] 36))
        have hs7 : wg.heap.size ≤ (w6.alloc (.cells #[.int .i64 x.op, .string (bstr x.text), .int .i64 x.num, .slice A' x.kids.length c'] 36)).heap.size := HB7.out.size
        have hone2 : ∀ u ∈ ([.int .i64 x.op, .string (bstr x.text), .int .i64 x.num, .slice A' x.kids.length c'] : List Value), u.oneCell' = true := by intro u hu; simp at hu; rcases hu with rfl | rfl | rfl | rfl <;> rfl
        have hlen : G.length + 1 ≤ 100000000000 := by omega
        clear hin hcs hbz hHeld
        go_wp2_with (first
         | ((with_reducible refine wpList_load_mid rfl 36 _ rfl b (off + k * 4) ?_ _ _ hr6 Tryz.underlying36 ?_ HL2.out ?_); rfl; rfl)
         | ((refine app_row rowCn rfl _ _ rfl _ (.slice A0 G.length c0) _ xs _ wg.heap.size rfl hown _ 1 1 rfl hrd hone2 hs7 hlen ?_); intro v8 w8 ho8 hg8 hb8 hwh8))
        go_roundw
        case rel => exact ⟨k + 1, G ++ [x], hlt, by go_num, HG2.out, by rw [List.length_append]; show G.length + 1 ≤ k + 1; omega, (fun c hc => by rcases List.mem_append.1 hc with h | h; exact HGM.out c h; rw [List.mem_singleton.1 h]; exact HXM.out), CnO.app hown HCS.out HCS2.out ho8 hg8 hwh8, hb8 _ HB7.out⟩
        case measure => simp [RowKit.intOf]; omega
     ·obtain rfl : k = F.length := by omega
      have HFIN0 : Hid (Pr.gath op F zero unit = Pr.gFin op unit G) := hid (by rw [HGD.out, HG.out, List.drop_length, Pr.dedF])
      obtain ⟨A1, c1, e1, hc1, hrowG⟩ := HO.out.row (ok' := fun b => w1.heap.size ≤ b) (fun b h => h) (fun q hq => by have := hownlt q hq; omega)
      injection e1 with e1 e2 e3
      subst e1 e3
      have HRG := hid hrowG
      clear hrowG e2
      have hs1 := HSZ.out
      rcases G with _ | ⟨x, _ | ⟨y, G⟩⟩
      ·have HFIN : Hid (Pr.gath op F zero unit = unit) := HFIN0
       have hU1 := HU.out.one
       clear HFIN0
       simp only [List.length_nil] at *
       go_wp2_with (first
        | (refine load_row_u (by rfl) 36 _ rfl (w.heap.size + 1) rfl 36 _ (0, 0) _ rfl HKU.out Tryz.underlying36 HSU1.out ?_)
        | ((with_reducible refine store_row_q rfl 36 _ _ rfl (w.heap.size + 2) U ?_ ?_ 36 _ HKR.out HSU1.out HOU.out hU1 ?_); rfl; rfl; intro w9 hk9 hs9 hbl9 hoth9))
       have HB9 : Hid (Below w.heap.size w w9) := hid (HBr.out.trans (hbl9 w.heap.size (by omega)))
       exact bodyPost_ret (v := .agg U) (results_cell_row rfl _ _ (w.heap.size + 2) 36 _ (0, 0) _ rfl hk9 Tryz.underlying36 rfl HSU1.out) rfl ⟨⟨_, rfl, by rw [HFE.out, HFIN.out]; exact HU.out.keep fun b hb hl => ⟨.inr (.inl hb), HB9.out.block b hl⟩⟩, HB9.out⟩
      ·have HFIN : Hid (Pr.gath op F zero unit = x) := HFIN0
       obtain ⟨b, off, cs, rfl, hok, hr, hcl, hcv⟩ := HRG.out 0 x rfl
       have HCV := hid hcv
       have hone := hcv.one
       rw [Nat.zero_mul, Nat.add_zero] at hr
       have HL2 : Hid ((Tryz.prog.info? 36).map (·.size) = some cs.length) := hid (by rw [size_cond, hcl])
       have HL3 : Hid ((Tryz.prog.info? 36).map (·.size) = some cs.toArray.size) := hid (by rw [size_cond, List.size_toArray, hcl])
       have HSZ3 : Hid (zCn.size = cs.toArray.size) := hid (by show 4 = cs.toArray.size; rw [List.size_toArray, hcl])
       clear hcv HFIN0
       simp only [List.length_cons, List.length_nil, Nat.zero_add] at hc0 hc1 hgl ⊢
       go_wp2_with (first
        | ((with_reducible refine wpList_load_mid rfl 36 _ rfl b off ?_ cs _ hr Tryz.underlying36 ?_ HL2.out ?_); rfl; rfl)
        | ((with_reducible refine store_row_q rfl 36 _ _ rfl (w.heap.size + 2) cs.toArray ?_ ?_ 36 _ HKR.out HL3.out HSZ3.out hone ?_); rfl; rfl; intro w9 hk9 hs9 hbl9 hoth9))
       have HB9 : Hid (Below w.heap.size w w9) := hid (HBr.out.trans (hbl9 w.heap.size (by omega)))
       exact bodyPost_ret (v := .agg cs.toArray) (results_cell_row rfl _ _ (w.heap.size + 2) 36 _ (0, 0) _ rfl hk9 Tryz.underlying36 rfl HL3.out) rfl ⟨⟨_, rfl, by rw [HFE.out, HFIN.out]; exact HCV.out.keep fun b hb hl => ⟨.inr (.inr (by omega)), hoth9 b (by omega)⟩⟩, HB9.out⟩
      ·have HFIN : Hid (Pr.gath op F zero unit = .mk op [] 0 (x :: y :: G)) := HFIN0
       clear HFIN0
       have hn0 : ¬ ((x :: y :: G).length : Int) = 0 := by simp only [List.length_cons]; omega
       have hn1 : ¬ ((x :: y :: G).length : Int) = 1 := by simp only [List.length_cons]; omega
       have hq0 : (((x :: y :: G).length : Int) == 0) = false := beq_eq_false_iff_ne.2 hn0
       have hq1 : (((x :: y :: G).length : Int) == 1) = false := beq_eq_false_iff_ne.2 hn1
       have HFIN2 : Hid (Pr.gath op F zero unit = .mk op [] 0 (x :: y :: G)) := hid HFIN.out
       have HLR : Hid ((Tryz.prog.info? 36).map (·.size) = some (#[.int .i64 op, .string ⟨#[]⟩, .int .i64 0, .slice A0 (x :: y :: G).length c0] : Array Value).size) := hid (by rw [size_cond]; rfl)
       clear HFIN
       generalize hGG : x :: y :: G = GG at *
       clear hGG
       go_wp2_with (first
        | ((with_reducible refine store_row_q rfl 36 _ _ rfl (w.heap.size + 2) #[.int .i64 op, .string ⟨#[]⟩, .int .i64 0, .slice A0 GG.length c0] ?_ ?_ 36 _ HKR.out HLR.out rfl (one_cn _ _ _ _ _ _) ?_); rfl; rfl; intro w9 hk9 hs9 hbl9 hoth9))
       have HB9 : Hid (Below w.heap.size w w9) := hid (HBr.out.trans (hbl9 w.heap.size (by omega)))
       exact bodyPost_ret (v := .agg #[.int .i64 op, .string ⟨#[]⟩, .int .i64 0, .slice A0 GG.length c0]) (results_cell_row rfl _ _ (w.heap.size + 2) 36 _ (0, 0) _ rfl hk9 Tryz.underlying36 rfl HLR.out) rfl ⟨⟨_, rfl, by rw [HFE.out, HFIN2.out]; exact CnV.make (HRG.out.keep fun b hb hl => ⟨.inr (.inr (by omega)), hoth9 b (by omega)⟩)⟩, HB9.out⟩
end Go.Proofs.YtchkiegehejfmaaGreatDoor
/- The text Gz. -/
namespace Go.Proofs.YtchkiegehejfmaaGreatDoor
open Go.RowKit Go.Lib
set_option linter.unusedVariables false
set_option linter.unusedSimpArgs false
theorem rsimple2 (m : Nat) (HS : RSimpleTo m) (ok : Nat → Prop) (t : List UInt8) (n : Int) (ks : List Pr.Cn) (A : Option Addr) (cap : Nat) (w : World) (hkm : Pr.nodesL ks ≤ m) (hm6 : m ≤ 100000) (hrow : CnRow w ok A ks) :
  Calls Tryz.prog 16 #[.agg #[.int .i64 2, .string (bstr t), .int .i64 n, .slice A ks.length cap]] w fun e w' => (∃ X, e = .returned (.agg X) ∧ CnV w' (fun b => w.heap.size ≤ b) X (Pr.simple (.mk 2 t n ks))) ∧ Below w.heap.size w w' := by
 have HSI := hid HS
 have HSA := hid size_al
 have hsp0 := SpX.of (cap := cap) (o := 2) (t := t) (n := n) hrow
 have hsp := hsp0.drew
 have HEQ : Hid (Pr.simple (.mk 2 t n ks) = Pr.gath 2 (Pr.flat 2 ks) Pr.never Pr.always) := hid (by rw [Pr.simple_eq]; rfl)
 have HC0 : Hid ((((w.alloc (.cells #[.int .i64 2, .string (bstr t), .int .i64 n, .slice A ks.length cap] 36)).alloc (.cells zCn 36)).alloc (.cells #[.int .i64 1, .string ⟨#[]⟩, .int .i64 0, .slice none 0 0] 36)).cell? ⟨w.heap.size, 3, none⟩ = some (.slice A ks.length cap) ∧ Blk (((w.alloc (.cells #[.int .i64 2, .string (bstr t), .int .i64 n, .slice A ks.length cap] 36)).alloc (.cells zCn 36)).alloc (.cells #[.int .i64 1, .string ⟨#[]⟩, .int .i64 0, .slice none 0 0] 36)) (w.heap.size + 2) 36 #[.int .i64 1, .string ⟨#[]⟩, .int .i64 0, .slice none 0 0]) := hid ⟨hsp0.kv.cell 3, hsp0.ka⟩
 obtain ⟨w1, hw1⟩ : ∃ w1, (((w.alloc (.cells #[.int .i64 2, .string (bstr t), .int .i64 n, .slice A ks.length cap] 36)).alloc (.cells zCn 36)).alloc (.cells #[.int .i64 1, .string ⟨#[]⟩, .int .i64 0, .slice none 0 0] 36)).drew = w1 := ⟨_, rfl⟩
 rw [hw1] at hsp
 have HB1 := hid hsp.be
 have HKV1 := hid hsp.kv
 have HKR1 := hid hsp.kr
 have HKA1 := hid hsp.ka
 have HRW1 := hid hsp.rw
 have HS1 : Hid (w.heap.size + 3 ≤ w1.heap.size) := hid (by have := hsp.sz; omega)
 have HW1 := hid hw1
 clear hsp hsp0 HS hrow hw1
 go_enter Tryz.func16, Tryz.ntmps16
 go_wp2_with fail
 refine wp_region_noPanic ?_
 refine wp_region_held_drew (S := fun W => W.cell? ⟨w.heap.size, 3, none⟩ = some (.slice A ks.length cap) ∧ Blk W (w.heap.size + 2) 36 #[.int .i64 1, .string ⟨#[]⟩, .int .i64 0, .slice none 0 0]) (by kernel_rfl) HC0.out (fun hHeld => ?_)
 rw [HW1.out] at hHeld ⊢
 refine wpAnyH_take (i := 0) (oi := _) (v := ?_) rfl (by kernel_rfl) (by kernel_rfl) (by kernel_rfl) (fun _ _ _ h => h) (Or.inl ⟨by rfl, ?_⟩) hHeld ?_
 rotate_left
 ·intro wq hSw
  obtain ⟨hSw1, -⟩ := hSw
  go_simp
  (try with_reducible rfl)
 (try simp only [Act.put, List.getElem_toArray, List.getElem_cons_zero, List.getElem_cons_succ, List.setIfInBounds_toArray, List.set_cons_zero, List.set_cons_succ])
 refine wpAnyH_take (i := 1) (oi := _) (v := ?_) rfl (by kernel_rfl) (by kernel_rfl) (by kernel_rfl) (fun _ _ _ h => h) (Or.inl ⟨by rfl, ?_⟩) hHeld ?_
 rotate_left
 ·intro wq hSw
  obtain ⟨hSw1, -⟩ := hSw
  go_simp
  (try with_reducible rfl)
 (try simp only [Act.put, List.getElem_toArray, List.getElem_cons_zero, List.getElem_cons_succ, List.setIfInBounds_toArray, List.set_cons_zero, List.set_cons_succ])
 refine wpAnyH_take (i := 3) (oi := _) (v := _) rfl (by kernel_rfl) (by kernel_rfl) (by kernel_rfl) (fun _ _ _ h => h) (row_yields_u rfl Tryz.underlying36 HSA.out (fun W h => h.2) (by rfl) _ rfl rfl) hHeld ?_
 (try simp only [Act.put, List.getElem_toArray, List.getElem_cons_zero, List.getElem_cons_succ, List.setIfInBounds_toArray, List.set_cons_zero, List.set_cons_succ])
 refine wpAnyH_ready (rs := [2]) (by kernel_rfl) (by simp) ?_
 refine AllReadyH.cons (o := _) rfl (fun K hK => ?_) AllReadyH.nil
 go_simp
 go_at_call 45
 refine (rnever_any w1).mono ?_
 rintro e w2 ⟨⟨N, rfl, hN⟩, hb2⟩
 have HB2 := hid (HB1.out.trans (hb2.mono HB1.out.size))
 have HKV2 := hid (HKV1.out.below hb2 HKV1.out.lt)
 have HKA2 := hid (HKA1.out.below hb2 HKA1.out.lt)
 have HKR2 := hid (HKR1.out.below hb2 HKR1.out.lt)
 have HRW2 := hid (HRW1.out.below hb2)
 have HN2 : Hid (CnV w2 (fun b => w.heap.size + 3 ≤ b) N Pr.never) := hid (hN.keep fun b h _ => ⟨Nat.le_trans HS1.out h, rfl⟩)
 have HS2 : Hid (w.heap.size + 3 ≤ w2.heap.size) := hid (Nat.le_trans HS1.out hb2.size)
 refine hK.out _ _ ⟨HKV2.out.cell 3, HKA2.out⟩ (fun hHeld2 => ?_)
 clear hN hb2
 clear hK K hHeld
 have hHeld := hHeld2
 clear hHeld2
 (try simp only [Act.put, List.getElem_toArray, List.getElem_cons_zero, List.getElem_cons_succ, List.setIfInBounds_toArray, List.set_cons_zero, List.set_cons_succ])
 refine wpAnyH_ready (rs := [4]) (by kernel_rfl) (by simp) ?_
 refine AllReadyH.cons (o := _) rfl (fun K hK => ?_) AllReadyH.nil
 go_simp
 go_at_call 44
 refine (rjoined_any m HSI.out ok (fun b => w.heap.size + 3 ≤ b) (fun b => w.heap.size + 3 ≤ b) 2 ks A cap Pr.never Pr.always N #[.int .i64 1, .string ⟨#[]⟩, .int .i64 0, .slice none 0 0] w2 hkm (by omega) HRW2.out HN2.out cn_always (by decide) (by decide)).mono ?_
 rintro e w3 ⟨⟨X, rfl, hX⟩, hb3⟩
 have HB3 := hid (HB2.out.trans (hb3.mono HB2.out.size))
 have HKV3 := hid (HKV2.out.below hb3 HKV2.out.lt)
 have HKA3 := hid (HKA2.out.below hb3 HKA2.out.lt)
 have HKR3 := hid (HKR2.out.below hb3 HKR2.out.lt)
 have HSP := HS2
 have HX3 : Hid (CnV w3 (fun b => w.heap.size + 3 ≤ b ∧ True) X (Pr.gath 2 (Pr.flat 2 ks) Pr.never Pr.always)) := hid (hX.keep fun b h _ => ⟨⟨by have := HSP.out; omega, trivial⟩, rfl⟩)
 have HSX : Hid (X.size = 4) := hid hX.size
 have HOX := hid hX.one
 have HS3 : Hid (w.heap.size + 3 ≤ w3.heap.size) := hid (Nat.le_trans HS2.out hb3.size)
 refine hK.out _ _ ⟨HKV3.out.cell 3, HKA3.out⟩ (fun hHeld2 => ?_)
 clear hX hb3
 clear hK K hHeld
 have hHeld := hHeld2
 clear hHeld2
 (try simp only [Act.put, List.getElem_toArray, List.getElem_cons_zero, List.getElem_cons_succ, List.setIfInBounds_toArray, List.set_cons_zero, List.set_cons_succ])
 refine wpAnyH_ready (rs := [5]) (by kernel_rfl) (by simp) ?_
 refine AllReadyH.cons (o := _) rfl (fun K hK => ?_) AllReadyH.nil
 rw [if_pos (by rfl)]
 refine wp_store_row 36 _ _ rfl (w.heap.size + 1) X rfl rfl 36 zCn HKR3.out (by rw [size_cond, HSX.out]) (by rw [HSX.out]; rfl) HOX.out ?_
 have hHeld2 : (w3.setRow (w.heap.size + 1) X).cell? ⟨w.heap.size, 3, none⟩ = some (.slice A ks.length cap) ∧ Blk (w3.setRow (w.heap.size + 1) X) (w.heap.size + 2) 36 #[.int .i64 1, .string ⟨#[]⟩, .int .i64 0, .slice none 0 0] := by
  have h1 : Blk (w3.setRow (w.heap.size + 1) X) w.heap.size 36 #[.int .i64 2, .string (bstr t), .int .i64 n, .slice A ks.length cap] := (setRow_other _ _ _ _ (by omega)).trans HKV3.out
  have h2 : Blk (w3.setRow (w.heap.size + 1) X) (w.heap.size + 2) 36 #[.int .i64 1, .string ⟨#[]⟩, .int .i64 0, .slice none 0 0] := (setRow_other _ _ _ _ (by omega)).trans HKA3.out
  exact ⟨h1.cell 3, h2⟩
 refine hK.out _ _ hHeld2 (fun _ => ?_)
 clear hK K hHeld
 have HK9 := hid (setRow_heap w3 (w.heap.size + 1) zCn X 36 (0, 0) HKR3.out)
 have HB9 := hid (below_setRow (g := w.heap.size + 1) HB3.out (Nat.le_succ _) X)
 refine wpAnyH_done (by kernel_rfl) ?_ _
 refine NoPanic.normal ?_
 go_wp2_with fail
 exact bodyPost_ret (v := .agg X) (results_cell_row rfl _ _ (w.heap.size + 1) 36 _ (0, 0) _ rfl HK9.out Tryz.underlying36 rfl (by rw [size_cond, HSX.out])) rfl ⟨⟨_, rfl, by rw [HEQ.out]; exact HX3.out.keep fun b hb hl => ⟨by omega, setRow_other _ _ _ _ (by omega)⟩⟩, HB9.out⟩
theorem rsimple3 (m : Nat) (HS : RSimpleTo m) (ok : Nat → Prop) (t : List UInt8) (n : Int) (ks : List Pr.Cn) (A : Option Addr) (cap : Nat) (w : World) (hkm : Pr.nodesL ks ≤ m) (hm6 : m ≤ 100000) (hrow : CnRow w ok A ks) :
  Calls Tryz.prog 16 #[.agg #[.int .i64 3, .string (bstr t), .int .i64 n, .slice A ks.length cap]] w fun e w' => (∃ X, e = .returned (.agg X) ∧ CnV w' (fun b => w.heap.size ≤ b) X (Pr.simple (.mk 3 t n ks))) ∧ Below w.heap.size w w' := by
 have HSI := hid HS
 have HSA := hid size_al
 have hsp0 := SpX.of (cap := cap) (o := 3) (t := t) (n := n) hrow
 have hsp := hsp0.drew
 have HEQ : Hid (Pr.simple (.mk 3 t n ks) = Pr.gath 3 (Pr.flat 3 ks) Pr.always Pr.never) := hid (by rw [Pr.simple_eq]; rfl)
 have HC0 : Hid ((((w.alloc (.cells #[.int .i64 3, .string (bstr t), .int .i64 n, .slice A ks.length cap] 36)).alloc (.cells zCn 36)).alloc (.cells #[.int .i64 1, .string ⟨#[]⟩, .int .i64 0, .slice none 0 0] 36)).cell? ⟨w.heap.size, 3, none⟩ = some (.slice A ks.length cap) ∧ Blk (((w.alloc (.cells #[.int .i64 3, .string (bstr t), .int .i64 n, .slice A ks.length cap] 36)).alloc (.cells zCn 36)).alloc (.cells #[.int .i64 1, .string ⟨#[]⟩, .int .i64 0, .slice none 0 0] 36)) (w.heap.size + 2) 36 #[.int .i64 1, .string ⟨#[]⟩, .int .i64 0, .slice none 0 0]) := hid ⟨hsp0.kv.cell 3, hsp0.ka⟩
 obtain ⟨w1, hw1⟩ : ∃ w1, (((w.alloc (.cells #[.int .i64 3, .string (bstr t), .int .i64 n, .slice A ks.length cap] 36)).alloc (.cells zCn 36)).alloc (.cells #[.int .i64 1, .string ⟨#[]⟩, .int .i64 0, .slice none 0 0] 36)).drew = w1 := ⟨_, rfl⟩
 rw [hw1] at hsp
 have HB1 := hid hsp.be
 have HKV1 := hid hsp.kv
 have HKR1 := hid hsp.kr
 have HKA1 := hid hsp.ka
 have HRW1 := hid hsp.rw
 have HS1 : Hid (w.heap.size + 3 ≤ w1.heap.size) := hid (by have := hsp.sz; omega)
 have HW1 := hid hw1
 clear hsp hsp0 HS hrow hw1
 go_enter Tryz.func16, Tryz.ntmps16
 go_wp2_with fail
 refine wp_region_noPanic ?_
 refine wp_region_held_drew (S := fun W => W.cell? ⟨w.heap.size, 3, none⟩ = some (.slice A ks.length cap) ∧ Blk W (w.heap.size + 2) 36 #[.int .i64 1, .string ⟨#[]⟩, .int .i64 0, .slice none 0 0]) (by kernel_rfl) HC0.out (fun hHeld => ?_)
 rw [HW1.out] at hHeld ⊢
 refine wpAnyH_take (i := 0) (oi := _) (v := ?_) rfl (by kernel_rfl) (by kernel_rfl) (by kernel_rfl) (fun _ _ _ h => h) (Or.inl ⟨by rfl, ?_⟩) hHeld ?_
 rotate_left
 ·intro wq hSw
  obtain ⟨hSw1, -⟩ := hSw
  go_simp
  (try with_reducible rfl)
 (try simp only [Act.put, List.getElem_toArray, List.getElem_cons_zero, List.getElem_cons_succ, List.setIfInBounds_toArray, List.set_cons_zero, List.set_cons_succ])
 refine wpAnyH_take (i := 1) (oi := _) (v := ?_) rfl (by kernel_rfl) (by kernel_rfl) (by kernel_rfl) (fun _ _ _ h => h) (Or.inl ⟨by rfl, ?_⟩) hHeld ?_
 rotate_left
 ·intro wq hSw
  obtain ⟨hSw1, -⟩ := hSw
  go_simp
  (try with_reducible rfl)
 (try simp only [Act.put, List.getElem_toArray, List.getElem_cons_zero, List.getElem_cons_succ, List.setIfInBounds_toArray, List.set_cons_zero, List.set_cons_succ])
 refine wpAnyH_take (i := 2) (oi := _) (v := _) rfl (by kernel_rfl) (by kernel_rfl) (by kernel_rfl) (fun _ _ _ h => h) (row_yields_u rfl Tryz.underlying36 HSA.out (fun W h => h.2) (by rfl) _ rfl rfl) hHeld ?_
 (try simp only [Act.put, List.getElem_toArray, List.getElem_cons_zero, List.getElem_cons_succ, List.setIfInBounds_toArray, List.set_cons_zero, List.set_cons_succ])
 refine wpAnyH_ready (rs := [3]) (by kernel_rfl) (by simp) ?_
 refine AllReadyH.cons (o := _) rfl (fun K hK => ?_) AllReadyH.nil
 go_simp
 go_at_call 45
 refine (rnever_any w1).mono ?_
 rintro e w2 ⟨⟨N, rfl, hN⟩, hb2⟩
 have HB2 := hid (HB1.out.trans (hb2.mono HB1.out.size))
 have HKV2 := hid (HKV1.out.below hb2 HKV1.out.lt)
 have HKA2 := hid (HKA1.out.below hb2 HKA1.out.lt)
 have HKR2 := hid (HKR1.out.below hb2 HKR1.out.lt)
 have HRW2 := hid (HRW1.out.below hb2)
 have HN2 : Hid (CnV w2 (fun b => w.heap.size + 3 ≤ b) N Pr.never) := hid (hN.keep fun b h _ => ⟨Nat.le_trans HS1.out h, rfl⟩)
 have HS2 : Hid (w.heap.size + 3 ≤ w2.heap.size) := hid (Nat.le_trans HS1.out hb2.size)
 refine hK.out _ _ ⟨HKV2.out.cell 3, HKA2.out⟩ (fun hHeld2 => ?_)
 clear hN hb2
 clear hK K hHeld
 have hHeld := hHeld2
 clear hHeld2
 (try simp only [Act.put, List.getElem_toArray, List.getElem_cons_zero, List.getElem_cons_succ, List.setIfInBounds_toArray, List.set_cons_zero, List.set_cons_succ])
 refine wpAnyH_ready (rs := [4]) (by kernel_rfl) (by simp) ?_
 refine AllReadyH.cons (o := _) rfl (fun K hK => ?_) AllReadyH.nil
 go_simp
 go_at_call 44
 refine (rjoined_any m HSI.out ok (fun b => w.heap.size + 3 ≤ b) (fun b => w.heap.size + 3 ≤ b) 3 ks A cap Pr.always Pr.never #[.int .i64 1, .string ⟨#[]⟩, .int .i64 0, .slice none 0 0] N w2 hkm (by omega) HRW2.out cn_always HN2.out (by decide) (by decide)).mono ?_
 rintro e w3 ⟨⟨X, rfl, hX⟩, hb3⟩
 have HB3 := hid (HB2.out.trans (hb3.mono HB2.out.size))
 have HKV3 := hid (HKV2.out.below hb3 HKV2.out.lt)
 have HKA3 := hid (HKA2.out.below hb3 HKA2.out.lt)
 have HKR3 := hid (HKR2.out.below hb3 HKR2.out.lt)
 have HSP := HS2
 have HX3 : Hid (CnV w3 (fun b => w.heap.size + 3 ≤ b ∧ True) X (Pr.gath 3 (Pr.flat 3 ks) Pr.always Pr.never)) := hid (hX.keep fun b h _ => ⟨⟨by have := HSP.out; omega, trivial⟩, rfl⟩)
 have HSX : Hid (X.size = 4) := hid hX.size
 have HOX := hid hX.one
 have HS3 : Hid (w.heap.size + 3 ≤ w3.heap.size) := hid (Nat.le_trans HS2.out hb3.size)
 refine hK.out _ _ ⟨HKV3.out.cell 3, HKA3.out⟩ (fun hHeld2 => ?_)
 clear hX hb3
 clear hK K hHeld
 have hHeld := hHeld2
 clear hHeld2
 (try simp only [Act.put, List.getElem_toArray, List.getElem_cons_zero, List.getElem_cons_succ, List.setIfInBounds_toArray, List.set_cons_zero, List.set_cons_succ])
 refine wpAnyH_ready (rs := [5]) (by kernel_rfl) (by simp) ?_
 refine AllReadyH.cons (o := _) rfl (fun K hK => ?_) AllReadyH.nil
 rw [if_pos (by rfl)]
 refine wp_store_row 36 _ _ rfl (w.heap.size + 1) X rfl rfl 36 zCn HKR3.out (by rw [size_cond, HSX.out]) (by rw [HSX.out]; rfl) HOX.out ?_
 have hHeld2 : (w3.setRow (w.heap.size + 1) X).cell? ⟨w.heap.size, 3, none⟩ = some (.slice A ks.length cap) ∧ Blk (w3.setRow (w.heap.size + 1) X) (w.heap.size + 2) 36 #[.int .i64 1, .string ⟨#[]⟩, .int .i64 0, .slice none 0 0] := by
  have h1 : Blk (w3.setRow (w.heap.size + 1) X) w.heap.size 36 #[.int .i64 3, .string (bstr t), .int .i64 n, .slice A ks.length cap] := (setRow_other _ _ _ _ (by omega)).trans HKV3.out
  have h2 : Blk (w3.setRow (w.heap.size + 1) X) (w.heap.size + 2) 36 #[.int .i64 1, .string ⟨#[]⟩, .int .i64 0, .slice none 0 0] := (setRow_other _ _ _ _ (by omega)).trans HKA3.out
  exact ⟨h1.cell 3, h2⟩
 refine hK.out _ _ hHeld2 (fun _ => ?_)
 clear hK K hHeld
 have HK9 := hid (setRow_heap w3 (w.heap.size + 1) zCn X 36 (0, 0) HKR3.out)
 have HB9 := hid (below_setRow (g := w.heap.size + 1) HB3.out (Nat.le_succ _) X)
 refine wpAnyH_done (by kernel_rfl) ?_ _
 refine NoPanic.normal ?_
 go_wp2_with fail
 exact bodyPost_ret (v := .agg X) (results_cell_row rfl _ _ (w.heap.size + 1) 36 _ (0, 0) _ rfl HK9.out Tryz.underlying36 rfl (by rw [size_cond, HSX.out])) rfl ⟨⟨_, rfl, by rw [HEQ.out]; exact HX3.out.keep fun b hb hl => ⟨by omega, setRow_other _ _ _ _ (by omega)⟩⟩, HB9.out⟩
theorem rsimple4 (m : Nat) (HS : RSimpleTo m) (ok : Nat → Prop) (t : List UInt8) (n : Int) (ks : List Pr.Cn) (A : Option Addr) (cap : Nat) (w : World) (hkm : Pr.nodesL ks ≤ m) (hm6 : m ≤ 100000) (hrow : CnRow w ok A ks) :
  Calls Tryz.prog 16 #[.agg #[.int .i64 4, .string (bstr t), .int .i64 n, .slice A ks.length cap]] w fun e w' => (∃ X, e = .returned (.agg X) ∧ CnV w' (fun b => w.heap.size ≤ b) X (Pr.simple (.mk 4 t n ks))) ∧ Below w.heap.size w w' := by
 have HSI := hid HS
 have HSA := hid size_al
 have hsp0 := SpX.of (cap := cap) (o := 4) (t := t) (n := n) hrow
 have hsp := hsp0.drew
 have HEQ : Hid (Pr.simple (.mk 4 t n ks) = Pr.notOf (Pr.gath 3 (Pr.flat 3 ks) Pr.always Pr.never)) := hid (by rw [Pr.simple_eq]; rfl)
 have HC0 : Hid ((((w.alloc (.cells #[.int .i64 4, .string (bstr t), .int .i64 n, .slice A ks.length cap] 36)).alloc (.cells zCn 36)).alloc (.cells #[.int .i64 1, .string ⟨#[]⟩, .int .i64 0, .slice none 0 0] 36)).cell? ⟨w.heap.size, 3, none⟩ = some (.slice A ks.length cap) ∧ Blk (((w.alloc (.cells #[.int .i64 4, .string (bstr t), .int .i64 n, .slice A ks.length cap] 36)).alloc (.cells zCn 36)).alloc (.cells #[.int .i64 1, .string ⟨#[]⟩, .int .i64 0, .slice none 0 0] 36)) (w.heap.size + 2) 36 #[.int .i64 1, .string ⟨#[]⟩, .int .i64 0, .slice none 0 0]) := hid ⟨hsp0.kv.cell 3, hsp0.ka⟩
 obtain ⟨w1, hw1⟩ : ∃ w1, (((w.alloc (.cells #[.int .i64 4, .string (bstr t), .int .i64 n, .slice A ks.length cap] 36)).alloc (.cells zCn 36)).alloc (.cells #[.int .i64 1, .string ⟨#[]⟩, .int .i64 0, .slice none 0 0] 36)).drew = w1 := ⟨_, rfl⟩
 rw [hw1] at hsp
 have HB1 := hid hsp.be
 have HKV1 := hid hsp.kv
 have HKR1 := hid hsp.kr
 have HKA1 := hid hsp.ka
 have HRW1 := hid hsp.rw
 have HS1 : Hid (w.heap.size + 3 ≤ w1.heap.size) := hid (by have := hsp.sz; omega)
 have HW1 := hid hw1
 clear hsp hsp0 HS hrow hw1
 go_enter Tryz.func16, Tryz.ntmps16
 go_wp2_with fail
 go_cut [4] from 27 to 31 (fun p wx => ∃ (g4 : Nat) (X : Array Value), p = .pointer (some ⟨g4, 0, none⟩) ∧ Blk wx g4 36 X ∧ CnV wx (fun b => w.heap.size + 3 ≤ b) X (Pr.gath 3 (Pr.flat 3 ks) Pr.always Pr.never) ∧ Below w.heap.size w wx ∧ Blk wx (w.heap.size + 1) 36 zCn)
 case first =>
  refine wp_region_noPanic ?_
  refine wp_region_held_drew (S := fun W => W.cell? ⟨w.heap.size, 3, none⟩ = some (.slice A ks.length cap) ∧ Blk W (w.heap.size + 2) 36 #[.int .i64 1, .string ⟨#[]⟩, .int .i64 0, .slice none 0 0]) (by kernel_rfl) HC0.out (fun hHeld => ?_)
  rw [HW1.out] at hHeld ⊢
  refine wpAnyH_take (i := 0) (oi := _) (v := ?_) rfl (by kernel_rfl) (by kernel_rfl) (by kernel_rfl) (fun _ _ _ h => h) (Or.inl ⟨by rfl, ?_⟩) hHeld ?_
  rotate_left
  ·intro wq hSw
   obtain ⟨hSw1, -⟩ := hSw
   go_simp
   (try with_reducible rfl)
  (try simp only [Act.put, List.getElem_toArray, List.getElem_cons_zero, List.getElem_cons_succ, List.setIfInBounds_toArray, List.set_cons_zero, List.set_cons_succ])
  refine wpAnyH_take (i := 1) (oi := _) (v := ?_) rfl (by kernel_rfl) (by kernel_rfl) (by kernel_rfl) (fun _ _ _ h => h) (Or.inl ⟨by rfl, ?_⟩) hHeld ?_
  rotate_left
  ·intro wq hSw
   obtain ⟨hSw1, -⟩ := hSw
   go_simp
   (try with_reducible rfl)
  (try simp only [Act.put, List.getElem_toArray, List.getElem_cons_zero, List.getElem_cons_succ, List.setIfInBounds_toArray, List.set_cons_zero, List.set_cons_succ])
  refine wpAnyH_take (i := 2) (oi := _) (v := _) rfl (by kernel_rfl) (by kernel_rfl) (by kernel_rfl) (fun _ _ _ h => h) (row_yields_u rfl Tryz.underlying36 HSA.out (fun W h => h.2) (by rfl) _ rfl rfl) hHeld ?_
  (try simp only [Act.put, List.getElem_toArray, List.getElem_cons_zero, List.getElem_cons_succ, List.setIfInBounds_toArray, List.set_cons_zero, List.set_cons_succ])
  refine wpAnyH_ready (rs := [3, 5]) (by kernel_rfl) (by simp) ?_
  refine AllReadyH.cons (o := _) rfl (fun K hK => ?_) (AllReadyH.cons (o := _) rfl (fun K hK => ?_) AllReadyH.nil)
  ·go_simp
   go_at_call 45
   refine (rnever_any w1).mono ?_
   rintro e w2 ⟨⟨N, rfl, hN⟩, hb2⟩
   have HB2 := hid (HB1.out.trans (hb2.mono HB1.out.size))
   have HKV2 := hid (HKV1.out.below hb2 HKV1.out.lt)
   have HKA2 := hid (HKA1.out.below hb2 HKA1.out.lt)
   have HKR2 := hid (HKR1.out.below hb2 HKR1.out.lt)
   have HRW2 := hid (HRW1.out.below hb2)
   have hsz2 := hb2.size
   have HS2 : Hid (w.heap.size + 3 ≤ w2.heap.size) := hid (Nat.le_trans HS1.out hsz2)
   have HN2 : Hid (CnV w2 (fun b => w.heap.size + 3 ≤ b ∧ True) N Pr.never) := hid (hN.keep fun b h _ => ⟨⟨by have := HS1.out; omega, trivial⟩, rfl⟩)
   clear hN
   refine hK.out _ _ ⟨HKV2.out.cell 3, HKA2.out⟩ (fun hHeld2 => ?_)
   clear hb2
   clear hK K hHeld
   have hHeld := hHeld2
   clear hHeld2
   (try simp only [Act.put, List.getElem_toArray, List.getElem_cons_zero, List.getElem_cons_succ, List.setIfInBounds_toArray, List.set_cons_zero, List.set_cons_succ])
   refine wpAnyH_ready (rs := [4, 5]) (by kernel_rfl) (by simp) ?_
   refine AllReadyH.cons (o := _) rfl (fun K hK => ?_) (AllReadyH.cons (o := _) rfl (fun K hK => ?_) AllReadyH.nil)
   ·go_simp
    go_at_call 44
    refine (rjoined_any m HSI.out ok (fun b => False) (fun b => w.heap.size + 3 ≤ b ∧ True) 3 ks A cap Pr.always Pr.never #[.int .i64 1, .string ⟨#[]⟩, .int .i64 0, .slice none 0 0] N w2 hkm (by omega) HRW2.out cn_always HN2.out (by decide) (by decide)).mono ?_
    rintro e w3 ⟨⟨X, rfl, hX⟩, hb3⟩
    have HB3 := hid (HB2.out.trans (hb3.mono HB2.out.size))
    have HKV3 := hid (HKV2.out.below hb3 HKV2.out.lt)
    have HKA3 := hid (HKA2.out.below hb3 HKA2.out.lt)
    have HKR3 := hid (HKR2.out.below hb3 HKR2.out.lt)
    have HRW3 := hid (HRW2.out.below hb3)
    have hsz3 := hb3.size
    have HS3 : Hid (w.heap.size + 3 ≤ w3.heap.size) := hid (Nat.le_trans HS2.out hsz3)
    have HX3 : Hid (CnV w3 (fun b => w.heap.size + 3 ≤ b ∧ True) X (Pr.gath 3 (Pr.flat 3 ks) Pr.always Pr.never)) := hid (hX.keep fun b h _ => ⟨by
     rcases h with h | h | h
     ·exact h.elim
     ·exact h
     ·exact ⟨by have := HS2.out; omega, trivial⟩, rfl⟩)
    have HSX : Hid (X.size = 4) := hid hX.size
    have HOX := hid hX.one
    clear hX
    refine hK.out _ _ ⟨HKV3.out.cell 3, HKA3.out⟩ (fun hHeld2 => ?_)
    clear hb3
    clear hK K hHeld
    have hHeld := hHeld2
    clear hHeld2
    (try simp only [Act.put, List.getElem_toArray, List.getElem_cons_zero, List.getElem_cons_succ, List.setIfInBounds_toArray, List.set_cons_zero, List.set_cons_succ])
    refine wpAnyH_ready (rs := [5]) (by kernel_rfl) (by simp) ?_
    refine AllReadyH.cons (o := _) rfl (fun K hK => ?_) AllReadyH.nil
    go_simp
    have hb4 := (Below.refl w3.heap.size w3).alloc (Nat.le_refl _) (.cells zCn 36)
    have hkq := Blk.new w3 36 zCn
    generalize hwq : w3.alloc (.cells zCn 36) = w4 at *
    clear hwq
    have HB4 := hid (HB3.out.trans (hb4.mono HB3.out.size))
    have HKV4 := hid (HKV3.out.below hb4 HKV3.out.lt)
    have HKA4 := hid (HKA3.out.below hb4 HKA3.out.lt)
    have HKR4 := hid (HKR3.out.below hb4 HKR3.out.lt)
    have HRW4 := hid (HRW3.out.below hb4)
    have hsz4 := hb4.size
    have HS4 : Hid (w.heap.size + 3 ≤ w4.heap.size) := hid (Nat.le_trans HS3.out hsz4)
    have HG4 : Hid (Blk w4 w3.heap.size 36 zCn) := hid hkq
    have HGS4 : Hid (w3.heap.size < w4.heap.size) := hid HG4.out.lt
    clear hkq
    have HX4 : Hid (CnV w4 (fun b => w.heap.size + 3 ≤ b ∧ b ≠ w3.heap.size) X (Pr.gath 3 (Pr.flat 3 ks) Pr.always Pr.never)) := hid (HX3.out.keep fun b h hl => ⟨⟨h.1, by omega⟩, hb4.block b hl⟩)
    refine hK.out _ _ ⟨HKV4.out.cell 3, HKA4.out⟩ (fun hHeld2 => ?_)
    clear hb4
    clear hK K hHeld
    have hHeld := hHeld2
    clear hHeld2
    (try simp only [Act.put, List.getElem_toArray, List.getElem_cons_zero, List.getElem_cons_succ, List.setIfInBounds_toArray, List.set_cons_zero, List.set_cons_succ])
    refine wpAnyH_ready (rs := [6]) (by kernel_rfl) (by simp) ?_
    refine AllReadyH.cons (o := _) rfl (fun K hK => ?_) AllReadyH.nil
    rw [if_pos (by rfl)]
    have hg4 : w.heap.size + 3 ≤ w3.heap.size := by first | exact HS1.out | exact HS2.out | exact HS3.out
    refine wp_store_row 36 _ _ rfl (w3.heap.size) X rfl rfl 36 zCn HG4.out (by rw [size_cond, HSX.out]) (by rw [HSX.out]; rfl) HOX.out ?_
    have HKV9 : Hid (Blk (w4.setRow (w3.heap.size) X) w.heap.size 36 #[.int .i64 4, .string (bstr t), .int .i64 n, .slice A ks.length cap]) := hid ((setRow_other _ _ _ _ (by omega)).trans HKV4.out)
    have HKA9 : Hid (Blk (w4.setRow (w3.heap.size) X) (w.heap.size + 2) 36 #[.int .i64 1, .string ⟨#[]⟩, .int .i64 0, .slice none 0 0]) := hid ((setRow_other _ _ _ _ (by omega)).trans HKA4.out)
    have HKR9 : Hid (Blk (w4.setRow (w3.heap.size) X) (w.heap.size + 1) 36 zCn) := hid ((setRow_other _ _ _ _ (by omega)).trans HKR4.out)
    have HKG9 := hid (setRow_heap w4 (w3.heap.size) zCn X 36 (0, 0) HG4.out)
    have HB9 := hid (below_setRow (g := w3.heap.size) HB4.out (by omega) X)
    have HX9 : Hid (CnV (w4.setRow (w3.heap.size) X) (fun b => w.heap.size + 3 ≤ b) X (Pr.gath 3 (Pr.flat 3 ks) Pr.always Pr.never)) := hid (HX4.out.keep fun b hb hl => ⟨hb.1, setRow_other _ _ _ _ hb.2⟩)
    refine hK.out _ _ ⟨HKV9.out.cell 3, HKA9.out⟩ (fun _ => ?_)
    clear hK K hHeld
    refine wpAnyH_done (by kernel_rfl) ?_ _
    refine NoPanic.normal ?_
    go_wp2_with fail
    go_meet
    exact ⟨w3.heap.size, X, rfl, HKG9.out, HX9.out, HB9.out, HKR9.out⟩
   ·go_simp
    have hb3 := (Below.refl w2.heap.size w2).alloc (Nat.le_refl _) (.cells zCn 36)
    have hkq := Blk.new w2 36 zCn
    generalize hwq : w2.alloc (.cells zCn 36) = w3 at *
    clear hwq
    have HB3 := hid (HB2.out.trans (hb3.mono HB2.out.size))
    have HKV3 := hid (HKV2.out.below hb3 HKV2.out.lt)
    have HKA3 := hid (HKA2.out.below hb3 HKA2.out.lt)
    have HKR3 := hid (HKR2.out.below hb3 HKR2.out.lt)
    have HRW3 := hid (HRW2.out.below hb3)
    have hsz3 := hb3.size
    have HS3 : Hid (w.heap.size + 3 ≤ w3.heap.size) := hid (Nat.le_trans HS2.out hsz3)
    have HG3 : Hid (Blk w3 w2.heap.size 36 zCn) := hid hkq
    have HGS3 : Hid (w2.heap.size < w3.heap.size) := hid HG3.out.lt
    clear hkq
    have HN3 : Hid (CnV w3 (fun b => w.heap.size + 3 ≤ b ∧ b ≠ w2.heap.size) N Pr.never) := hid (HN2.out.keep fun b h hl => ⟨⟨h.1, by omega⟩, hb3.block b hl⟩)
    refine hK.out _ _ ⟨HKV3.out.cell 3, HKA3.out⟩ (fun hHeld2 => ?_)
    clear hb3
    clear hK K hHeld
    have hHeld := hHeld2
    clear hHeld2
    (try simp only [Act.put, List.getElem_toArray, List.getElem_cons_zero, List.getElem_cons_succ, List.setIfInBounds_toArray, List.set_cons_zero, List.set_cons_succ])
    refine wpAnyH_ready (rs := [4]) (by kernel_rfl) (by simp) ?_
    refine AllReadyH.cons (o := _) rfl (fun K hK => ?_) AllReadyH.nil
    go_simp
    go_at_call 44
    refine (rjoined_any m HSI.out ok (fun b => False) (fun b => w.heap.size + 3 ≤ b ∧ b ≠ w2.heap.size) 3 ks A cap Pr.always Pr.never #[.int .i64 1, .string ⟨#[]⟩, .int .i64 0, .slice none 0 0] N w3 hkm (by omega) HRW3.out cn_always HN3.out (by decide) (by decide)).mono ?_
    rintro e w4 ⟨⟨X, rfl, hX⟩, hb4⟩
    have HB4 := hid (HB3.out.trans (hb4.mono HB3.out.size))
    have HKV4 := hid (HKV3.out.below hb4 HKV3.out.lt)
    have HKA4 := hid (HKA3.out.below hb4 HKA3.out.lt)
    have HKR4 := hid (HKR3.out.below hb4 HKR3.out.lt)
    have HRW4 := hid (HRW3.out.below hb4)
    have hsz4 := hb4.size
    have HS4 : Hid (w.heap.size + 3 ≤ w4.heap.size) := hid (Nat.le_trans HS3.out hsz4)
    have HX4 : Hid (CnV w4 (fun b => w.heap.size + 3 ≤ b ∧ b ≠ w2.heap.size) X (Pr.gath 3 (Pr.flat 3 ks) Pr.always Pr.never)) := hid (hX.keep fun b h _ => ⟨by
     rcases h with h | h | h
     ·exact h.elim
     ·exact h
     ·exact ⟨by have := HS3.out; omega, by have := HGS3.out; omega⟩, rfl⟩)
    have HSX : Hid (X.size = 4) := hid hX.size
    have HOX := hid hX.one
    have HG4 := hid (HG3.out.below hb4 HG3.out.lt)
    have HGS4 : Hid (w2.heap.size < w4.heap.size) := hid HG4.out.lt
    clear hX
    refine hK.out _ _ ⟨HKV4.out.cell 3, HKA4.out⟩ (fun hHeld2 => ?_)
    clear hb4
    clear hK K hHeld
    have hHeld := hHeld2
    clear hHeld2
    (try simp only [Act.put, List.getElem_toArray, List.getElem_cons_zero, List.getElem_cons_succ, List.setIfInBounds_toArray, List.set_cons_zero, List.set_cons_succ])
    refine wpAnyH_ready (rs := [6]) (by kernel_rfl) (by simp) ?_
    refine AllReadyH.cons (o := _) rfl (fun K hK => ?_) AllReadyH.nil
    rw [if_pos (by rfl)]
    have hg4 : w.heap.size + 3 ≤ w2.heap.size := by first | exact HS1.out | exact HS2.out | exact HS3.out
    refine wp_store_row 36 _ _ rfl (w2.heap.size) X rfl rfl 36 zCn HG4.out (by rw [size_cond, HSX.out]) (by rw [HSX.out]; rfl) HOX.out ?_
    have HKV9 : Hid (Blk (w4.setRow (w2.heap.size) X) w.heap.size 36 #[.int .i64 4, .string (bstr t), .int .i64 n, .slice A ks.length cap]) := hid ((setRow_other _ _ _ _ (by omega)).trans HKV4.out)
    have HKA9 : Hid (Blk (w4.setRow (w2.heap.size) X) (w.heap.size + 2) 36 #[.int .i64 1, .string ⟨#[]⟩, .int .i64 0, .slice none 0 0]) := hid ((setRow_other _ _ _ _ (by omega)).trans HKA4.out)
    have HKR9 : Hid (Blk (w4.setRow (w2.heap.size) X) (w.heap.size + 1) 36 zCn) := hid ((setRow_other _ _ _ _ (by omega)).trans HKR4.out)
    have HKG9 := hid (setRow_heap w4 (w2.heap.size) zCn X 36 (0, 0) HG4.out)
    have HB9 := hid (below_setRow (g := w2.heap.size) HB4.out (by omega) X)
    have HX9 : Hid (CnV (w4.setRow (w2.heap.size) X) (fun b => w.heap.size + 3 ≤ b) X (Pr.gath 3 (Pr.flat 3 ks) Pr.always Pr.never)) := hid (HX4.out.keep fun b hb hl => ⟨hb.1, setRow_other _ _ _ _ hb.2⟩)
    refine hK.out _ _ ⟨HKV9.out.cell 3, HKA9.out⟩ (fun _ => ?_)
    clear hK K hHeld
    refine wpAnyH_done (by kernel_rfl) ?_ _
    refine NoPanic.normal ?_
    go_wp2_with fail
    go_meet
    exact ⟨w2.heap.size, X, rfl, HKG9.out, HX9.out, HB9.out, HKR9.out⟩
  ·go_simp
   have hb2 := (Below.refl w1.heap.size w1).alloc (Nat.le_refl _) (.cells zCn 36)
   have hkq := Blk.new w1 36 zCn
   generalize hwq : w1.alloc (.cells zCn 36) = w2 at *
   clear hwq
   have HB2 := hid (HB1.out.trans (hb2.mono HB1.out.size))
   have HKV2 := hid (HKV1.out.below hb2 HKV1.out.lt)
   have HKA2 := hid (HKA1.out.below hb2 HKA1.out.lt)
   have HKR2 := hid (HKR1.out.below hb2 HKR1.out.lt)
   have HRW2 := hid (HRW1.out.below hb2)
   have hsz2 := hb2.size
   have HS2 : Hid (w.heap.size + 3 ≤ w2.heap.size) := hid (Nat.le_trans HS1.out hsz2)
   have HG2 : Hid (Blk w2 w1.heap.size 36 zCn) := hid hkq
   have HGS2 : Hid (w1.heap.size < w2.heap.size) := hid HG2.out.lt
   clear hkq
   refine hK.out _ _ ⟨HKV2.out.cell 3, HKA2.out⟩ (fun hHeld2 => ?_)
   clear hb2
   clear hK K hHeld
   have hHeld := hHeld2
   clear hHeld2
   (try simp only [Act.put, List.getElem_toArray, List.getElem_cons_zero, List.getElem_cons_succ, List.setIfInBounds_toArray, List.set_cons_zero, List.set_cons_succ])
   refine wpAnyH_ready (rs := [3]) (by kernel_rfl) (by simp) ?_
   refine AllReadyH.cons (o := _) rfl (fun K hK => ?_) AllReadyH.nil
   go_simp
   go_at_call 45
   refine (rnever_any w2).mono ?_
   rintro e w3 ⟨⟨N, rfl, hN⟩, hb3⟩
   have HB3 := hid (HB2.out.trans (hb3.mono HB2.out.size))
   have HKV3 := hid (HKV2.out.below hb3 HKV2.out.lt)
   have HKA3 := hid (HKA2.out.below hb3 HKA2.out.lt)
   have HKR3 := hid (HKR2.out.below hb3 HKR2.out.lt)
   have HRW3 := hid (HRW2.out.below hb3)
   have hsz3 := hb3.size
   have HS3 : Hid (w.heap.size + 3 ≤ w3.heap.size) := hid (Nat.le_trans HS2.out hsz3)
   have HN3 : Hid (CnV w3 (fun b => w.heap.size + 3 ≤ b ∧ b ≠ w1.heap.size) N Pr.never) := hid (hN.keep fun b h _ => ⟨⟨by have := HS2.out; omega, by have := HGS2.out; omega⟩, rfl⟩)
   have HG3 := hid (HG2.out.below hb3 HG2.out.lt)
   have HGS3 : Hid (w1.heap.size < w3.heap.size) := hid HG3.out.lt
   clear hN
   refine hK.out _ _ ⟨HKV3.out.cell 3, HKA3.out⟩ (fun hHeld2 => ?_)
   clear hb3
   clear hK K hHeld
   have hHeld := hHeld2
   clear hHeld2
   (try simp only [Act.put, List.getElem_toArray, List.getElem_cons_zero, List.getElem_cons_succ, List.setIfInBounds_toArray, List.set_cons_zero, List.set_cons_succ])
   refine wpAnyH_ready (rs := [4]) (by kernel_rfl) (by simp) ?_
   refine AllReadyH.cons (o := _) rfl (fun K hK => ?_) AllReadyH.nil
   go_simp
   go_at_call 44
   refine (rjoined_any m HSI.out ok (fun b => False) (fun b => w.heap.size + 3 ≤ b ∧ b ≠ w1.heap.size) 3 ks A cap Pr.always Pr.never #[.int .i64 1, .string ⟨#[]⟩, .int .i64 0, .slice none 0 0] N w3 hkm (by omega) HRW3.out cn_always HN3.out (by decide) (by decide)).mono ?_
   rintro e w4 ⟨⟨X, rfl, hX⟩, hb4⟩
   have HB4 := hid (HB3.out.trans (hb4.mono HB3.out.size))
   have HKV4 := hid (HKV3.out.below hb4 HKV3.out.lt)
   have HKA4 := hid (HKA3.out.below hb4 HKA3.out.lt)
   have HKR4 := hid (HKR3.out.below hb4 HKR3.out.lt)
   have HRW4 := hid (HRW3.out.below hb4)
   have hsz4 := hb4.size
   have HS4 : Hid (w.heap.size + 3 ≤ w4.heap.size) := hid (Nat.le_trans HS3.out hsz4)
   have HX4 : Hid (CnV w4 (fun b => w.heap.size + 3 ≤ b ∧ b ≠ w1.heap.size) X (Pr.gath 3 (Pr.flat 3 ks) Pr.always Pr.never)) := hid (hX.keep fun b h _ => ⟨by
    rcases h with h | h | h
    ·exact h.elim
    ·exact h
    ·exact ⟨by have := HS3.out; omega, by have := HGS3.out; omega⟩, rfl⟩)
   have HSX : Hid (X.size = 4) := hid hX.size
   have HOX := hid hX.one
   have HG4 := hid (HG3.out.below hb4 HG3.out.lt)
   have HGS4 : Hid (w1.heap.size < w4.heap.size) := hid HG4.out.lt
   clear hX
   refine hK.out _ _ ⟨HKV4.out.cell 3, HKA4.out⟩ (fun hHeld2 => ?_)
   clear hb4
   clear hK K hHeld
   have hHeld := hHeld2
   clear hHeld2
   (try simp only [Act.put, List.getElem_toArray, List.getElem_cons_zero, List.getElem_cons_succ, List.setIfInBounds_toArray, List.set_cons_zero, List.set_cons_succ])
   refine wpAnyH_ready (rs := [6]) (by kernel_rfl) (by simp) ?_
   refine AllReadyH.cons (o := _) rfl (fun K hK => ?_) AllReadyH.nil
   rw [if_pos (by rfl)]
   have hg4 : w.heap.size + 3 ≤ w1.heap.size := by first | exact HS1.out | exact HS2.out | exact HS3.out
   refine wp_store_row 36 _ _ rfl (w1.heap.size) X rfl rfl 36 zCn HG4.out (by rw [size_cond, HSX.out]) (by rw [HSX.out]; rfl) HOX.out ?_
   have HKV9 : Hid (Blk (w4.setRow (w1.heap.size) X) w.heap.size 36 #[.int .i64 4, .string (bstr t), .int .i64 n, .slice A ks.length cap]) := hid ((setRow_other _ _ _ _ (by omega)).trans HKV4.out)
   have HKA9 : Hid (Blk (w4.setRow (w1.heap.size) X) (w.heap.size + 2) 36 #[.int .i64 1, .string ⟨#[]⟩, .int .i64 0, .slice none 0 0]) := hid ((setRow_other _ _ _ _ (by omega)).trans HKA4.out)
   have HKR9 : Hid (Blk (w4.setRow (w1.heap.size) X) (w.heap.size + 1) 36 zCn) := hid ((setRow_other _ _ _ _ (by omega)).trans HKR4.out)
   have HKG9 := hid (setRow_heap w4 (w1.heap.size) zCn X 36 (0, 0) HG4.out)
   have HB9 := hid (below_setRow (g := w1.heap.size) HB4.out (by omega) X)
   have HX9 : Hid (CnV (w4.setRow (w1.heap.size) X) (fun b => w.heap.size + 3 ≤ b) X (Pr.gath 3 (Pr.flat 3 ks) Pr.always Pr.never)) := hid (HX4.out.keep fun b hb hl => ⟨hb.1, setRow_other _ _ _ _ hb.2⟩)
   refine hK.out _ _ ⟨HKV9.out.cell 3, HKA9.out⟩ (fun _ => ?_)
   clear hK K hHeld
   refine wpAnyH_done (by kernel_rfl) ?_ _
   refine NoPanic.normal ?_
   go_wp2_with fail
   go_meet
   exact ⟨w1.heap.size, X, rfl, HKG9.out, HX9.out, HB9.out, HKR9.out⟩
 case rest =>
  obtain ⟨g4, X, rfl, hk4, hx4, hb4, hkr4⟩ := hcut
  have HF := hid (Pr.gath_fine (op := 3) (by decide) (Pr.flat_fine 3 ks) Pr.fine_always Pr.fine_never)
  have HK4 := hid hk4
  have HX4 := hid hx4
  have HB4 := hid hb4
  have HKR4 := hid hkr4
  obtain ⟨y, hy⟩ : ∃ y, Pr.gath 3 (Pr.flat 3 ks) Pr.always Pr.never = y := ⟨_, rfl⟩
  rw [hy] at HF HX4 HEQ
  clear hk4 hx4 hb4 hkr4 hy HC0 HB1 HKV1 HKR1 HKA1 HRW1 HS1 HW1
  obtain ⟨A', c', rfl, hry⟩ := HX4.out.open
  have HRY := hid hry
  have hc40 := HK4.out.cell 0
  have hc43 := HK4.out.cell 3
  simp only [List.getElem?_toArray, List.getElem?_cons_zero, List.getElem?_cons_succ] at hc40 hc43
  have HS4 : Hid ((Tryz.prog.info? 36).map (·.size) = some (#[.int .i64 y.op, .string (bstr y.text), .int .i64 y.num, .slice A' y.kids.length c'] : Array Value).size) := hid (by rw [size_cond]; rfl)
  clear hry
  by_cases hyo : y.op = 4
  ·have h1 := ((Pr.fine_open y).1 HF.out).1 hyo
   have HN : Hid (Pr.simple (.mk 4 t n ks) = y.kids.headD default) := hid (by rw [HEQ.out]; unfold Pr.notOf; rw [if_pos hyo])
   obtain ⟨x, hx⟩ : ∃ x, y.kids = [x] := by
    match y.kids, h1 with
    | [x], _ => exact ⟨x, rfl⟩
   obtain ⟨b, off, cs, rfl, hok, hr, hcl, hcv⟩ := HRY.out 0 x (by rw [hx]; rfl)
   have HCV := hid hcv
   have hone := hcv.one
   rw [Nat.zero_mul, Nat.add_zero] at hr
   have HL2 : Hid ((Tryz.prog.info? 36).map (·.size) = some cs.length) := hid (by rw [size_cond, hcl])
   have HL3 : Hid ((Tryz.prog.info? 36).map (·.size) = some cs.toArray.size) := hid (by rw [size_cond, List.size_toArray, hcl])
   have HSZ3 : Hid (zCn.size = cs.toArray.size) := hid (by show 4 = cs.toArray.size; rw [List.size_toArray, hcl])
   rw [hx] at hc43 HN
   rw [hyo] at hc40
   simp only [List.length_cons, List.length_nil, Nat.zero_add] at hc43
   clear hcv hx hyo h1 HX4 HK4 HS4
   go_wp2_with (first
    | ((with_reducible refine wpList_load_mid rfl 36 _ rfl b off ?_ cs _ hr Tryz.underlying36 ?_ HL2.out ?_); rfl; rfl)
    | ((with_reducible refine store_row_q rfl 36 _ _ rfl (w.heap.size + 1) cs.toArray ?_ ?_ 36 _ HKR4.out HL3.out HSZ3.out hone ?_); rfl; rfl; intro w9 hk9 hs9 hbl9 hoth9))
   have HB9 : Hid (Below w.heap.size w w9) := hid (HB4.out.trans (hbl9 w.heap.size (by omega)))
   exact bodyPost_ret (v := .agg cs.toArray) (results_cell_row rfl _ _ (w.heap.size + 1) 36 _ (0, 0) _ rfl hk9 Tryz.underlying36 rfl HL3.out) rfl ⟨⟨_, rfl, by rw [HN.out]; exact HCV.out.keep fun b hb hl => ⟨by omega, hoth9 b (by omega)⟩⟩, HB9.out⟩
  ·have hyb : (y.op == 4) = false := beq_eq_false_iff_ne.2 hyo
   have HN : Hid (Pr.simple (.mk 4 t n ks) = .mk 4 [] 0 [y]) := hid (by rw [HEQ.out]; unfold Pr.notOf; rw [if_neg hyo])
   have hba := (Below.refl wc.heap.size wc).alloc (Nat.le_refl _) (.cells #[.int .i64 y.op, .string (bstr y.text), .int .i64 y.num, .slice A' y.kids.length c'] 36)
   have HBA := hid hba
   have HKA := hid (Blk.new wc 36 #[.int .i64 y.op, .string (bstr y.text), .int .i64 y.num, .slice A' y.kids.length c'])
   have HKR5 := hid (HKR4.out.alloc (.cells #[.int .i64 y.op, .string (bstr y.text), .int .i64 y.num, .slice A' y.kids.length c'] 36))
   have HX5 := hid (HX4.out.bel hba)
   have hw4 : w.heap.size + 2 ≤ wc.heap.size := HKR4.out.lt
   have HLR : Hid ((Tryz.prog.info? 36).map (·.size) = some (#[.int .i64 4, .string ⟨#[]⟩, .int .i64 0, .slice (some ⟨wc.heap.size, 0, none⟩) 1 1] : Array Value).size) := hid (by rw [size_cond]; rfl)
   generalize hwa : wc.alloc (.cells #[.int .i64 y.op, .string (bstr y.text), .int .i64 y.num, .slice A' y.kids.length c'] 36) = wa at *
   clear hba hyo
   go_wp2_with (first
    | (refine load_row_u (by rfl) 36 _ rfl g4 rfl 36 _ (0, 0) _ rfl HK4.out Tryz.underlying36 HS4.out ?_)
    | ((with_reducible refine store_row_q rfl 36 _ _ rfl (w.heap.size + 1) #[.int .i64 4, .string ⟨#[]⟩, .int .i64 0, .slice (some ⟨wc.heap.size, 0, none⟩) 1 1] ?_ ?_ 36 _ HKR5.out HLR.out rfl (one_cn _ _ _ _ _ _) ?_); rfl; rfl; intro w9 hk9 hs9 hbl9 hoth9))
   have HB9 : Hid (Below w.heap.size w w9) := hid ((HB4.out.trans (HBA.out.mono HB4.out.size)).trans (hbl9 w.heap.size (by omega)))
   refine bodyPost_ret (v := .agg #[.int .i64 4, .string ⟨#[]⟩, .int .i64 0, .slice (some ⟨wc.heap.size, 0, none⟩) 1 1]) (results_cell_row rfl _ _ (w.heap.size + 1) 36 _ (0, 0) _ rfl hk9 Tryz.underlying36 rfl HLR.out) rfl ⟨⟨_, rfl, ?_⟩, HB9.out⟩
   rw [HN.out]
   have hk9a : Blk w9 wc.heap.size 36 #[.int .i64 y.op, .string (bstr y.text), .int .i64 y.num, .slice A' y.kids.length c'] := (hoth9 _ (by omega)).trans HKA.out
   refine CnV.make (ks := [y]) (A := some ⟨wc.heap.size, 0, none⟩) (fun i c hi => ?_)
   cases i with
   | zero =>
    injection hi with hi
    subst hi
    exact ⟨wc.heap.size, 0, [.int .i64 y.op, .string (bstr y.text), .int .i64 y.num, .slice A' y.kids.length c'], rfl, by omega, fun j v hj => by rw [hk9a.cell]; simpa using hj, rfl, HX5.out.keep fun b hb hl => ⟨by omega, hoth9 b (by omega)⟩⟩
   | succ i => simp at hi
theorem rsimple0 (ok : Nat → Prop) (o : Int) (t : List UInt8) (n : Int) (ks : List Pr.Cn) (A : Option Addr) (cap : Nat) (w : World) (h2 : o ≠ 2) (h3 : o ≠ 3) (h4 : o ≠ 4) (hrow : CnRow w ok A ks) :
  Calls Tryz.prog 16 #[.agg #[.int .i64 o, .string (bstr t), .int .i64 n, .slice A ks.length cap]] w fun e w' => (∃ X, e = .returned (.agg X) ∧ CnV w' (fun b => w.heap.size ≤ b) X (Pr.simple (.mk o t n ks))) ∧ Below w.heap.size w w' := by
 have hsp0 := SpX.of (cap := cap) (o := o) (t := t) (n := n) hrow
 have HE : Hid (Pr.simple (.mk o t n ks) = if Pr.known o then .mk o (if Pr.useText o then t else []) (if Pr.useN o then n else 0) [] else Pr.never) := hid (by rw [Pr.simple_eq]; show (if o = 2 then _ else if o = 3 then _ else if o = 4 then _ else if Pr.known o then _ else _) = _; rw [if_neg h2, if_neg h3, if_neg h4]; rfl)
 have hoi2 : (o == 2) = false := beq_eq_false_iff_ne.2 h2
 have hoi3 : (o == 3) = false := beq_eq_false_iff_ne.2 h3
 have hoi4 : (o == 4) = false := beq_eq_false_iff_ne.2 h4
 have hK : Pr.useKids o = false := by unfold Pr.useKids; rw [hoi2, hoi3, hoi4]; rfl
 have HUT := hid (fun W => rusestext_any o W)
 have HUN := hid (fun W => rusesn_any o W)
 clear hrow
 go_enter Tryz.func16, Tryz.ntmps16
 cases hkn : Pr.known o with
 | false =>
  rw [hkn] at HE
  have hor : (decide (o < 1) = true) ∨ (decide (o < 1) = false ∧ decide ((17 : Int) < o) = true) := by
   unfold Pr.known at hkn
   simp only [Bool.and_eq_false_iff, decide_eq_false_iff_not] at hkn
   by_cases h1 : o < 1
   ·exact .inl (decide_eq_true h1)
   ·exact .inr ⟨decide_eq_false h1, decide_eq_true (by omega)⟩
  have HEQ : Hid (Pr.simple (.mk o t n ks) = Pr.never) := hid HE.out
  have HKR := hid hsp0.kr
  have HB0 := hid hsp0.be
  clear hsp0 hkn HE hK HUT HUN
  rcases hor with hk1 | ⟨hk1, hk2⟩
  ·go_wp2_with fail
   refine (rnever_any _).mono ?_
   rintro e w3 ⟨⟨N, rfl, hN⟩, hb3⟩
   have HKR3 := hid (HKR.out.below hb3 HKR.out.lt)
   have HB3 := hid (HB0.out.trans (hb3.mono HB0.out.size))
   have hsz := HB0.out.size
   have HN : Hid (CnV w3 (fun b => w.heap.size + 3 ≤ b) N Pr.never) := hid (hN.keep fun b h _ => ⟨by rw [World.size_alloc, World.size_alloc, World.size_alloc] at h; exact h, rfl⟩)
   have HSX : Hid ((Tryz.prog.info? 36).map (·.size) = some N.size) := hid (by rw [size_cond, hN.size])
   have HSZ3 : Hid (zCn.size = N.size) := hid (by rw [hN.size]; rfl)
   have hone := hN.one
   clear hN hb3
   go_wp2_with ((with_reducible refine store_row_q rfl 36 _ _ rfl (w.heap.size + 1) N ?_ ?_ 36 _ HKR3.out HSX.out HSZ3.out hone ?_); rfl; rfl; intro w9 hk9 hs9 hbl9 hoth9)
   have HB9 : Hid (Below w.heap.size w w9) := hid (HB3.out.trans (hbl9 w.heap.size (by omega)))
   exact bodyPost_ret (v := .agg N) (results_cell_row rfl _ _ (w.heap.size + 1) 36 _ (0, 0) _ rfl hk9 Tryz.underlying36 rfl HSX.out) rfl ⟨⟨_, rfl, by rw [HEQ.out]; exact HN.out.keep fun b hb hl => ⟨by omega, hoth9 b (by omega)⟩⟩, HB9.out⟩
  ·go_wp2_with fail
   refine (rnever_any _).mono ?_
   rintro e w3 ⟨⟨N, rfl, hN⟩, hb3⟩
   have HKR3 := hid (HKR.out.below hb3 HKR.out.lt)
   have HB3 := hid (HB0.out.trans (hb3.mono HB0.out.size))
   have hsz := HB0.out.size
   have HN : Hid (CnV w3 (fun b => w.heap.size + 3 ≤ b) N Pr.never) := hid (hN.keep fun b h _ => ⟨by rw [World.size_alloc, World.size_alloc, World.size_alloc] at h; exact h, rfl⟩)
   have HSX : Hid ((Tryz.prog.info? 36).map (·.size) = some N.size) := hid (by rw [size_cond, hN.size])
   have HSZ3 : Hid (zCn.size = N.size) := hid (by rw [hN.size]; rfl)
   have hone := hN.one
   clear hN hb3
   go_wp2_with ((with_reducible refine store_row_q rfl 36 _ _ rfl (w.heap.size + 1) N ?_ ?_ 36 _ HKR3.out HSX.out HSZ3.out hone ?_); rfl; rfl; intro w9 hk9 hs9 hbl9 hoth9)
   have HB9 : Hid (Below w.heap.size w w9) := hid (HB3.out.trans (hbl9 w.heap.size (by omega)))
   exact bodyPost_ret (v := .agg N) (results_cell_row rfl _ _ (w.heap.size + 1) 36 _ (0, 0) _ rfl hk9 Tryz.underlying36 rfl HSX.out) rfl ⟨⟨_, rfl, by rw [HEQ.out]; exact HN.out.keep fun b hb hl => ⟨by omega, hoth9 b (by omega)⟩⟩, HB9.out⟩
 | true =>
  rw [hkn, if_pos rfl] at HE
  have hk1 : decide (o < 1) = false := by unfold Pr.known at hkn; simp only [Bool.and_eq_true, decide_eq_true_eq] at hkn; exact decide_eq_false (by omega)
  have hk2 : decide ((17 : Int) < o) = false := by unfold Pr.known at hkn; simp only [Bool.and_eq_true, decide_eq_true_eq] at hkn; exact decide_eq_false (by omega)
  clear hkn hK
  cases hT : Pr.useText o with
  | true =>
   have hN : Pr.useN o = false := by unfold Pr.useText at hT; simp at hT; rcases hT with ((rfl | rfl) | rfl) | rfl <;> rfl
   rw [hT] at HUT
   rw [hN] at HUN
   have HEQ : Hid (Pr.simple (.mk o t n ks) = .mk o t 0 []) := hid (by rw [HE.out, hT, hN]; rfl)
   have HKX := hid (Blk.new (((w.alloc (.cells #[.int .i64 o, .string (bstr t), .int .i64 n, .slice A ks.length cap] 36)).alloc (.cells zCn 36)).alloc (.cells #[.int .i64 1, .string ⟨#[]⟩, .int .i64 0, .slice none 0 0] 36)) 36 #[.int .i64 o, .string (bstr t), .int .i64 0, .slice none 0 0])
   have HKR5 := hid (hsp0.kr.alloc (.cells #[.int .i64 o, .string (bstr t), .int .i64 0, .slice none 0 0] 36))
   have HB5 := hid (hsp0.be.alloc (by rw [hsp0.sz]; omega) (.cells #[.int .i64 o, .string (bstr t), .int .i64 0, .slice none 0 0] 36))
   have HSX : Hid ((Tryz.prog.info? 36).map (·.size) = some (#[.int .i64 o, .string (bstr t), .int .i64 0, .slice none 0 0] : Array Value).size) := hid (by rw [size_cond]; rfl)
   have hsz0 := hsp0.sz
   rw [hsz0] at HKX
   clear hsp0 hT hN hsz0
   go_wp2_with (first
    | (go_at_call 46; refine (HUT.out _).mono ?_; rintro e w2 ⟨rfl, rfl⟩)
    | (go_at_call 47; refine (HUN.out _).mono ?_; rintro e w2 ⟨rfl, rfl⟩)
    | (refine load_row_u (by rfl) 36 _ rfl (w.heap.size + 3) rfl 36 _ (0, 0) _ rfl HKX.out Tryz.underlying36 HSX.out ?_)
    | ((with_reducible refine store_row_q rfl 36 _ _ rfl (w.heap.size + 1) #[.int .i64 o, .string (bstr t), .int .i64 0, .slice none 0 0] ?_ ?_ 36 _ HKR5.out HSX.out rfl (one_cn _ _ _ _ _ _) ?_); rfl; rfl; intro w9 hk9 hs9 hbl9 hoth9))
   have HB9 : Hid (Below w.heap.size w w9) := hid (HB5.out.trans (hbl9 w.heap.size (by omega)))
   exact bodyPost_ret (v := .agg #[.int .i64 o, .string (bstr t), .int .i64 0, .slice none 0 0]) (results_cell_row rfl _ _ (w.heap.size + 1) 36 _ (0, 0) _ rfl hk9 Tryz.underlying36 rfl HSX.out) rfl ⟨⟨_, rfl, by rw [HEQ.out]; exact CnV.make (ks := []) (A := none) (cap := 0) CnRow.nil⟩, HB9.out⟩
  | false => cases hN : Pr.useN o with
   | true =>
    rw [hT] at HUT
    rw [hN] at HUN
    have HEQ : Hid (Pr.simple (.mk o t n ks) = .mk o [] n []) := hid (by rw [HE.out, hT, hN]; rfl)
    have HKX := hid (Blk.new (((w.alloc (.cells #[.int .i64 o, .string (bstr t), .int .i64 n, .slice A ks.length cap] 36)).alloc (.cells zCn 36)).alloc (.cells #[.int .i64 1, .string ⟨#[]⟩, .int .i64 0, .slice none 0 0] 36)) 36 #[.int .i64 o, .string ⟨#[]⟩, .int .i64 n, .slice none 0 0])
    have HKR5 := hid (hsp0.kr.alloc (.cells #[.int .i64 o, .string ⟨#[]⟩, .int .i64 n, .slice none 0 0] 36))
    have HB5 := hid (hsp0.be.alloc (by rw [hsp0.sz]; omega) (.cells #[.int .i64 o, .string ⟨#[]⟩, .int .i64 n, .slice none 0 0] 36))
    have HSX : Hid ((Tryz.prog.info? 36).map (·.size) = some (#[.int .i64 o, .string ⟨#[]⟩, .int .i64 n, .slice none 0 0] : Array Value).size) := hid (by rw [size_cond]; rfl)
    have hsz0 := hsp0.sz
    rw [hsz0] at HKX
    clear hsp0 hT hN hsz0
    go_wp2_with (first
     | (go_at_call 46; refine (HUT.out _).mono ?_; rintro e w2 ⟨rfl, rfl⟩)
     | (go_at_call 47; refine (HUN.out _).mono ?_; rintro e w2 ⟨rfl, rfl⟩)
     | (refine load_row_u (by rfl) 36 _ rfl (w.heap.size + 3) rfl 36 _ (0, 0) _ rfl HKX.out Tryz.underlying36 HSX.out ?_)
     | ((with_reducible refine store_row_q rfl 36 _ _ rfl (w.heap.size + 1) #[.int .i64 o, .string ⟨#[]⟩, .int .i64 n, .slice none 0 0] ?_ ?_ 36 _ HKR5.out HSX.out rfl (one_cn _ _ _ _ _ _) ?_); rfl; rfl; intro w9 hk9 hs9 hbl9 hoth9))
    have HB9 : Hid (Below w.heap.size w w9) := hid (HB5.out.trans (hbl9 w.heap.size (by omega)))
    exact bodyPost_ret (v := .agg #[.int .i64 o, .string ⟨#[]⟩, .int .i64 n, .slice none 0 0]) (results_cell_row rfl _ _ (w.heap.size + 1) 36 _ (0, 0) _ rfl hk9 Tryz.underlying36 rfl HSX.out) rfl ⟨⟨_, rfl, by rw [HEQ.out]; exact CnV.make (ks := []) (A := none) (cap := 0) CnRow.nil⟩, HB9.out⟩
   | false =>
    rw [hT] at HUT
    rw [hN] at HUN
    have HEQ : Hid (Pr.simple (.mk o t n ks) = .mk o [] 0 []) := hid (by rw [HE.out, hT, hN]; rfl)
    have HKX := hid (Blk.new (((w.alloc (.cells #[.int .i64 o, .string (bstr t), .int .i64 n, .slice A ks.length cap] 36)).alloc (.cells zCn 36)).alloc (.cells #[.int .i64 1, .string ⟨#[]⟩, .int .i64 0, .slice none 0 0] 36)) 36 #[.int .i64 o, .string ⟨#[]⟩, .int .i64 0, .slice none 0 0])
    have HKR5 := hid (hsp0.kr.alloc (.cells #[.int .i64 o, .string ⟨#[]⟩, .int .i64 0, .slice none 0 0] 36))
    have HB5 := hid (hsp0.be.alloc (by rw [hsp0.sz]; omega) (.cells #[.int .i64 o, .string ⟨#[]⟩, .int .i64 0, .slice none 0 0] 36))
    have HSX : Hid ((Tryz.prog.info? 36).map (·.size) = some (#[.int .i64 o, .string ⟨#[]⟩, .int .i64 0, .slice none 0 0] : Array Value).size) := hid (by rw [size_cond]; rfl)
    have hsz0 := hsp0.sz
    rw [hsz0] at HKX
    clear hsp0 hT hN hsz0
    go_wp2_with (first
     | (go_at_call 46; refine (HUT.out _).mono ?_; rintro e w2 ⟨rfl, rfl⟩)
     | (go_at_call 47; refine (HUN.out _).mono ?_; rintro e w2 ⟨rfl, rfl⟩)
     | (refine load_row_u (by rfl) 36 _ rfl (w.heap.size + 3) rfl 36 _ (0, 0) _ rfl HKX.out Tryz.underlying36 HSX.out ?_)
     | ((with_reducible refine store_row_q rfl 36 _ _ rfl (w.heap.size + 1) #[.int .i64 o, .string ⟨#[]⟩, .int .i64 0, .slice none 0 0] ?_ ?_ 36 _ HKR5.out HSX.out rfl (one_cn _ _ _ _ _ _) ?_); rfl; rfl; intro w9 hk9 hs9 hbl9 hoth9))
    have HB9 : Hid (Below w.heap.size w w9) := hid (HB5.out.trans (hbl9 w.heap.size (by omega)))
    exact bodyPost_ret (v := .agg #[.int .i64 o, .string ⟨#[]⟩, .int .i64 0, .slice none 0 0]) (results_cell_row rfl _ _ (w.heap.size + 1) 36 _ (0, 0) _ rfl hk9 Tryz.underlying36 rfl HSX.out) rfl ⟨⟨_, rfl, by rw [HEQ.out]; exact CnV.make (ks := []) (A := none) (cap := 0) CnRow.nil⟩, HB9.out⟩
theorem rsimple_any : ∀ m, m ≤ 100000 → RSimpleTo m
 | 0, _ => fun ok c V w hm h => absurd hm (by have := Pr.nodes_pos c; omega)
 | m + 1, hm6 => fun ok c V w hm h => by
  have IH := rsimple_any m (by omega)
  obtain ⟨o, t, n, ks⟩ := c
  rw [Pr.nodes] at hm
  obtain ⟨A, cap, rfl, hrow⟩ := h.open
  by_cases h2 : o = 2
  ·subst h2
   exact rsimple2 m IH ok t n ks A cap w (by omega) (by omega) hrow
  by_cases h3 : o = 3
  ·subst h3
   exact rsimple3 m IH ok t n ks A cap w (by omega) (by omega) hrow
  by_cases h4 : o = 4
  ·subst h4
   exact rsimple4 m IH ok t n ks A cap w (by omega) (by omega) hrow
  exact rsimple0 ok o t n ks A cap w h2 h3 h4 hrow
end Go.Proofs.YtchkiegehejfmaaGreatDoor
