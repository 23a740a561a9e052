/- The text Nm. -/
import Derived.BigQuiet
import Derived.Test.YtacjhbbieeliaaaGreatDoorMbb
import Derived.Test.YtacjhbbieeliaaaGreatDoorMbf
import Derived.Test.YtacjhbbieeliaaaGreatDoorMbj
set_option linter.unusedSimpArgs false
set_option maxHeartbeats 16000000
set_option maxRecDepth 100000
set_option linter.unusedVariables false
namespace Go.Proofs.YtacjhbbieeliaaaGreatDoor
open Go.RowKit Go.Lib
set_option linter.unusedVariables false
set_option linter.unusedSimpArgs false
theorem ends_any (ok : Nat → Prop) (c : Rn.Tr) (V : Array Value) (w : World) (h : RnV w ok V c) (hne : c.kids ≠ []) (hn : c.kids.length ≤ 1000000) (hE : ∀ i x, c.kids[i]? = some x → if i + 1 = c.kids.length then x.err = c.err else x.err = 0) :
  Calls Tryz.prog 12 #[.agg V] w fun e w' => e = .returned (.bool true) ∧ Below w.heap.size w w' := by
 have hb1 := (Below.refl w.heap.size w).alloc (Nat.le_refl _) (.cells V 42)
 have HV := hid (h.bel hb1)
 obtain ⟨A, cap, rfl, hrow⟩ := HV.out.open
 have HB1 := hid hb1
 have HR1 := hid hrow
 have HEE := hid hE
 have HK1 := hid (Blk.new w 42 #[.string (bstr c.rule), .int .i64 c.id, .int .i64 c.err, .slice A c.kids.length cap])
 have hpos : 0 < c.kids.length := List.length_pos_iff.2 hne
 clear hb1 hrow h HV hE hne
 generalize hw1 : w.alloc (.cells #[.string (bstr c.rule), .int .i64 c.id, .int .i64 c.err, .slice A c.kids.length cap] 42) = w1 at *
 have hc3 : w1.cell? ⟨w.heap.size, 3, none⟩ = some (.slice A c.kids.length cap) := HK1.out.cell 3
 generalize c.kids = ks at *
 generalize c.err = ce at *
 go_enter Tryz.func12, Tryz.ntmps12
 go_wp2_with fail
 go_loopw [3] (fun ix wr => ∃ k : Nat, k ≤ ks.length ∧ ix = .int .i64 (k : Int) ∧ Below w1.heap.size w1 wr) (fun ix _ => ks.length - (RowKit.intOf ix).toNat)
 case atStart => exact ⟨0, Nat.zero_le _, rfl, Below.refl _ _⟩
 case round =>
  obtain ⟨k, hk, rfl, hb⟩ := hrel
  have HB := hid hb
  have HKr := hid (HK1.out.below hb HK1.out.lt)
  clear hb
  have hc3 : wr.cell? ⟨w.heap.size, 3, none⟩ = some (.slice A ks.length cap) := HKr.out.cell 3
  by_cases hlt : k < ks.length
  ·obtain ⟨x, hx⟩ : ∃ x, ks[k]? = some x := ⟨_, List.getElem?_eq_getElem hlt⟩
   obtain ⟨b, off, cs, rfl, hok, hr, hcl, hcv⟩ := (HR1.out.below HB.out) k x hx
   obtain ⟨A', cap', hcs, -⟩ := hcv.open
   have hce : wr.cell? ⟨b, off + k * 4 + 2, none⟩ = some (.int .i64 x.err) := by
    refine hr 2 _ ?_
    rw [← List.getElem?_toArray, hcs]
    rfl
   have HBL := hid (range_lt hr (by omega))
   have HCE := hid hce
   have hx3 : ∀ W, Below wr.heap.size wr W → W.cell? ⟨w.heap.size, 3, none⟩ = some (.slice (some ⟨b, off, none⟩) ks.length cap) := fun W h => (HKr.out.below h HKr.out.lt).cell 3
   have hx2 : ∀ W, Below wr.heap.size wr W → W.cell? ⟨w.heap.size, 2, none⟩ = some (.int .i64 ce) := fun W h => (HKr.out.below h HKr.out.lt).cell 2
   have hxe : ∀ W, Below wr.heap.size wr W → W.cell? ⟨b, off + k * 4 + 2, none⟩ = some (.int .i64 x.err) := fun W h => (Below.cell h (p := ⟨b, off + k * 4 + 2, none⟩) HBL.out).trans HCE.out
   have hwk : IntKind.i64.wrap ((k : Int) + 1) = ((k + 1 : Nat) : Int) := by rw [IntWalk.i64_in _ (by omega)]; rfl
   have hEx := HEE.out k x hx
   have hck : k + 1 ≤ ks.length := hlt
   clear hx hcv hcs hr hcl hce hc3
   have hcc : wr.cell? ⟨w.heap.size, 3, none⟩ = some (.slice (some ⟨b, off, none⟩) ks.length cap) := (HKr.out.cell 3)
   have hc2 : wr.cell? ⟨w.heap.size, 2, none⟩ = some (.int .i64 ce) := (HKr.out.cell 2)
   have hcx := HCE.out
   clear hx2 hx3 hxe
   by_cases hlast : k + 1 = ks.length
   ·rw [if_pos hlast] at hEx
    have hd1 : decide ((k : Int) + 1 < (ks.length : Int)) = false := decide_eq_false (by omega)
    have he1 : ((k : Int) + 1 == (ks.length : Int)) = true := beq_iff_eq.2 (by omega)
    have hbn : (x.err != ce) = false := by rw [hEx]; simp
    clear hlast hEx
    go_wp2_with fail
    go_quiet (fail)
    go_wp2_with fail
    go_roundw
    case rel => exact ⟨k + 1, hck, by go_num, below_drewN HB.out _⟩
    case measure => simp [RowKit.intOf]; omega
   ·rw [if_neg hlast] at hEx
    have hd1 : decide ((k : Int) + 1 < (ks.length : Int)) = true := decide_eq_true (by omega)
    have he1 : ((k : Int) + 1 == (ks.length : Int)) = false := beq_eq_false_iff_ne.2 (by omega)
    have hbn : (x.err != 0) = false := by rw [hEx]; simp
    clear hlast hEx
    go_wp2_with fail
    go_quiet (fail)
    go_wp2_with fail
    go_roundw
    case rel => exact ⟨k + 1, hck, by go_num, below_drewN HB.out _⟩
    case measure => simp [RowKit.intOf]; omega
  ·obtain rfl : k = ks.length := by omega
   have hdp : decide (0 < ks.length) = true := decide_eq_true hpos
   go_wp2_with fail
   go_ret
   exact ⟨rfl, HB1.out.trans (HB.out.mono HB1.out.size)⟩
theorem upTo_len : ∀ l : List Rn.Tr, (Co.upTo l).length ≤ l.length
 | [] => Nat.le_refl _
 | x :: r => by
  unfold Co.upTo
  have := upTo_len r
  split <;> simp <;> omega
theorem memberR_len (e : Co.Ev) (l : List Co.Ev) : (Co.memberR e l).length ≤ 8 := by
 unfold Co.memberR
 repeat' split
 all_goals simp
theorem rulesR_len (e : Co.Ev) (l : List Co.Ev) : (Co.upTo (Co.rulesR e l)).length ≤ 1000000 := by
 refine Nat.le_trans (upTo_len _) ?_
 unfold Co.rulesR
 have := memberR_len e l
 split
 ·simp
 ·split
  ·simp; omega
  ·split <;> simp
theorem rules_law (ok : Nat → Prop) (e : Co.Ev) (X : Array Value) (l : List Co.Ev) (A : Option Addr) (cap : Nat) (w : World) (hX : EvV ok w X.toList e) (h : EvRow ok w A l) (hm : ∃ m, w.cell? ⟨0, 0, none⟩ = some (.int .i64 m)) :
  Calls Tryz.prog 4 #[.agg X, .slice A l.length cap] w fun e w' => e = .returned (.bool true) ∧ Below w.heap.size w w' := by
 obtain ⟨m, hm⟩ := hm
 obtain ⟨Y, rfl⟩ : ∃ Y : List Value, X = Y.toArray := ⟨X.toList, by simp⟩
 have hX : EvV ok w Y e := hX
 have hb1 := (Below.refl w.heap.size w).alloc (Nat.le_refl _) (.cells Y.toArray 34)
 have HB1 := hid hb1
 have HE1 := hid (Blk.new w 34 Y.toArray)
 have HX1 := hid (hX.bel hb1)
 have HR1 := hid (h.bel hb1)
 have HSE := hid (size_evA hX)
 have HM1 := hid ((Below.cell hb1 (p := ⟨0, 0, none⟩) (block_lt hm)).trans hm)
 have HM01 := hid (block_lt HM1.out)
 have HC0 := hid hX.c0
 clear hX h hm hb1
 generalize hw1 : w.alloc (.cells Y.toArray 34) = w1 at *
 go_enter Tryz.func4, Tryz.ntmps4
 go_wp2_with (refine wpList_load_row rfl 34 _ rfl w.heap.size rfl 34 Y.toArray (0, 0) _ HE1.out Tryz.underlying34 rfl HSE.out ?_)
 refine (long_ev ok Y e w1 HX1.out).mono ?_
 rintro r w2 ⟨⟨bb, rfl, hbb⟩, hb2⟩
 have HB12 := hid hb2
 have HB2 := hid (HB1.out.trans (hb2.mono HB1.out.size))
 clear hb2
 cases bb with
 | true =>
  clear hbb
  go_wp2_with fail
  go_ret
  exact ⟨rfl, HB2.out⟩
 | false =>
  have HL := hid (hbb rfl)
  clear hbb
  go_wp2_with fail
  refine (rgreat_ev ok l A cap 20 w2 (HR1.out.bel HB12.out) (by decide)).mono ?_
  rintro r w3 ⟨⟨bb, rfl, hbb⟩, hb3⟩
  have HB13 := hid (HB12.out.trans (hb3.mono HB12.out.size))
  have HB3 := hid (HB1.out.trans (HB13.out.mono HB1.out.size))
  clear hb3
  cases bb with
  | true =>
   clear hbb
   go_wp2_with fail
   go_ret
   exact ⟨rfl, HB3.out⟩
  | false =>
   have HG := hid (hbb rfl)
   clear hbb
   have hl : l.length ≤ 1000000 := by have := HG.out.1; omega
   have HLS : Hid (∀ x ∈ l, x.users.length ≤ 1000000 ∧ x.kinds.length ≤ 1000000) := hid (fun x hx => by have := HG.out.2 x hx; unfold EvSh at this; omega)
   have HAL : Hid (∀ x ∈ l, x.allow.length ≤ 1000000) := hid (fun x hx => by have := HG.out.2 x hx; unfold EvSh at this; omega)
   have HEV : Hid (e.prev.length ≤ 1000000 ∧ (e.users.length ≤ 1000000 ∧ e.kinds.length ≤ 1000000) ∧ (e.sender.length ≤ 1000000 ∧ e.room.length ≤ 1000000)) := hid (by have := HL.out; omega)
   have HPA := hid (fun (W : World) (hb : Below w1.heap.size w1 W) => pallowed_all ok e l A cap Y W (HX1.out.bel hb) (HR1.out.bel hb) hl HLS.out HAL.out HEV.out.1 HEV.out.2.1 HEV.out.2.2 m ((Below.cell hb (p := ⟨0, 0, none⟩) HM01.out).trans HM1.out))
   have HPE := hid (pexp_all ok e Y l A cap w3 (HX1.out.bel HB13.out) (HR1.out.bel HB13.out) hl HLS.out HAL.out HEV.out.1 HEV.out.2.1 HEV.out.2.2 m ((Below.cell HB13.out (p := ⟨0, 0, none⟩) HM01.out).trans HM1.out))
   have HE3 := hid (HE1.out.below HB13.out HE1.out.lt)
   clear hl HLS HAL HEV
   go_wp2_with (refine wpList_load_row rfl 34 _ rfl w.heap.size rfl 34 Y.toArray (0, 0) _ HE3.out Tryz.underlying34 rfl HSE.out ?_)
   refine HPE.out.mono ?_
   rintro r w4 ⟨⟨V, rfl, hv⟩, hb4⟩
   have HB14 := hid (HB13.out.trans (hb4.mono HB13.out.size))
   have HV := hid hv
   obtain ⟨A5, c5, hV0, -⟩ := hv.open
   obtain ⟨ks, hks⟩ : ∃ ks, ks = Co.upTo (Co.rulesR e l) := ⟨_, rfl⟩
   obtain ⟨AE, hAE⟩ : ∃ AE, AE = Co.allowedE e l := ⟨_, rfl⟩
   have hAR : Co.allowedR e l = .mk [97, 108, 108, 111, 119, 101, 100] e.id AE ks := by rw [hks, hAE]; rfl
   have hV : V = (#[.string (bstr [97, 108, 108, 111, 119, 101, 100]), .int .i64 e.id, .int .i64 AE, .slice A5 ks.length c5] : Array Value) := by rw [hAR] at hV0; exact hV0
   clear hV0
   subst hV
   have HSX : Hid ((Tryz.prog.info? 42).map (·.size) = some (#[.string (bstr [97, 108, 108, 111, 119, 101, 100]), .int .i64 e.id, .int .i64 AE, .slice A5 ks.length c5] : Array Value).size) := hid size_rn
   have hb6 := (Below.refl w4.heap.size w4).alloc (Nat.le_refl _) (.cells #[.string (bstr [97, 108, 108, 111, 119, 101, 100]), .int .i64 e.id, .int .i64 AE, .slice A5 ks.length c5] 42)
   have HX6 : Hid (Blk (w4.alloc (.cells #[.string (bstr [97, 108, 108, 111, 119, 101, 100]), .int .i64 e.id, .int .i64 AE, .slice A5 ks.length c5] 42)) w4.heap.size 42 #[.string (bstr [97, 108, 108, 111, 119, 101, 100]), .int .i64 e.id, .int .i64 AE, .slice A5 ks.length c5]) := hid (Blk.new w4 42 #[.string (bstr [97, 108, 108, 111, 119, 101, 100]), .int .i64 e.id, .int .i64 AE, .slice A5 ks.length c5])
   have HB16 := hid (HB14.out.trans (hb6.mono HB14.out.size))
   have HV6 : Hid (RnV (w4.alloc (.cells #[.string (bstr [97, 108, 108, 111, 119, 101, 100]), .int .i64 e.id, .int .i64 AE, .slice A5 ks.length c5] 42)) (fun b => w3.heap.size ≤ b) #[.string (bstr [97, 108, 108, 111, 119, 101, 100]), .int .i64 e.id, .int .i64 AE, .slice A5 ks.length c5] (.mk [97, 108, 108, 111, 119, 101, 100] e.id AE ks)) := hid (by rw [← hAR]; exact HV.out.bel hb6)
   have HKS : Hid (ks ≠ [] ∧ ks.length ≤ 1000000 ∧ ∀ i x, ks[i]? = some x → if i + 1 = ks.length then x.err = AE else x.err = 0) := hid (by
    rw [hks, hAE, ← Co.rules_last]
    exact ⟨Co.rules_ne e l, rulesR_len e l, fun i x hx => Co.upTo_ends _ i x hx⟩)
   rw [← hAE] at HPA
   clear hv hb4 hks hAE hAR hb6 HPE HE3 HV HL HG
   go_upto_region 4 with fail
   generalize hw6 : w4.alloc (.cells #[.string (bstr [97, 108, 108, 111, 119, 101, 100]), .int .i64 e.id, .int .i64 AE, .slice A5 ks.length c5] 42) = w6 at *
   generalize w4.heap.size = xb at *
   have HE6 := hid (HE1.out.below HB16.out HE1.out.lt)
   have HB6 := HB16
   have HEC0 : Hid (w6.cell? ⟨w.heap.size, 0, none⟩ = some (.int .i64 e.id)) := hid ((HE6.out.cell 0).trans (by rw [List.getElem?_toArray]; exact HC0.out))
   have HEN := hid (fun (W : World) (hb : Below w6.heap.size w6 W) => ends_any (fun b => w3.heap.size ≤ b) (.mk [97, 108, 108, 111, 119, 101, 100] e.id AE ks) #[.string (bstr [97, 108, 108, 111, 119, 101, 100]), .int .i64 e.id, .int .i64 AE, .slice A5 ks.length c5] W (HV6.out.bel hb) HKS.out.1 HKS.out.2.1 HKS.out.2.2)
   refine wp_region_noPanic ?_
   refine wp_region_held_drew (S := fun W => Below w6.heap.size w6 W) (by kernel_rfl) ((Below.refl _ _).drew) (fun hHeld => ?_)
   generalize hwd : w6.drew = wd at *
   have HBd := hid hHeld
   clear hwd
   refine wpAnyH_take (i := 0) (oi := _) (v := ?_) rfl (by kernel_rfl) (by kernel_rfl) (by kernel_rfl) (fun _ _ _ h => h) (Or.inl ⟨by kernel_rfl, ?_⟩) hHeld ?_
   rotate_left
   ·intro wq hSw
    go_simp
    (try with_reducible rfl)
   (try simp only [Act.put, pk1, pk2, pk3, pk4, pk5, pk6])
   refine wpAnyH_take (i := 1) (oi := _) (v := ?_) rfl (by kernel_rfl) (by kernel_rfl) (by kernel_rfl) (fun _ _ _ h => h) (Or.inl ⟨by kernel_rfl, ?_⟩) hHeld ?_
   rotate_left
   ·intro wq hSw
    have hx0 : wq.cell? ⟨xb, 0, none⟩ = some (.string (bstr [97, 108, 108, 111, 119, 101, 100])) := (HX6.out.below hSw HX6.out.lt).cell 0
    go_simp
    (try with_reducible rfl)
   (try simp only [Act.put, pk1, pk2, pk3, pk4, pk5, pk6])
   refine wpAnyH_take (i := 2) (oi := _) (v := ?_) rfl (by kernel_rfl) (by kernel_rfl) (by kernel_rfl) (fun _ _ _ h => h) (Or.inl ⟨by kernel_rfl, ?_⟩) hHeld ?_
   rotate_left
   ·intro wq hSw
    have hst : ((bstr [97, 108, 108, 111, 119, 101, 100]).toList == [97, 108, 108, 111, 119, 101, 100]) = true := by
     rw [Lib.toList_data]
     rfl
    go_simp
    (try with_reducible rfl)
   (try simp only [Act.put, pk1, pk2, pk3, pk4, pk5, pk6])
   refine wpAnyH_take (i := 3) (oi := _) (v := ?_) rfl (by kernel_rfl) (by kernel_rfl) (by kernel_rfl) (fun _ _ _ h => h) (Or.inl ⟨by kernel_rfl, ?_⟩) hHeld ?_
   rotate_left
   ·intro wq hSw
    go_simp
    (try with_reducible rfl)
   (try simp only [Act.put, pk1, pk2, pk3, pk4, pk5, pk6])
   refine wpAnyH_take (i := 4) (oi := _) (v := ?_) rfl (by kernel_rfl) (by kernel_rfl) (by kernel_rfl) (fun _ _ _ h => h) (Or.inl ⟨by kernel_rfl, ?_⟩) hHeld ?_
   rotate_left
   ·intro wq hSw
    go_simp
    (try with_reducible rfl)
   (try simp only [Act.put, pk1, pk2, pk3, pk4, pk5, pk6])
   refine wpAnyH_take (i := 5) (oi := _) (v := ?_) rfl (by kernel_rfl) (by kernel_rfl) (by kernel_rfl) (fun _ _ _ h => h) (Or.inl ⟨by kernel_rfl, ?_⟩) hHeld ?_
   rotate_left
   ·intro wq hSw
    have hx1 : wq.cell? ⟨xb, 1, none⟩ = some (.int .i64 e.id) := (HX6.out.below hSw HX6.out.lt).cell 1
    go_simp
    (try with_reducible rfl)
   (try simp only [Act.put, pk1, pk2, pk3, pk4, pk5, pk6])
   refine wpAnyH_take (i := 6) (oi := _) (v := ?_) rfl (by kernel_rfl) (by kernel_rfl) (by kernel_rfl) (fun _ _ _ h => h) (Or.inl ⟨by kernel_rfl, ?_⟩) hHeld ?_
   rotate_left
   ·intro wq hSw
    go_simp
    (try with_reducible rfl)
   (try simp only [Act.put, pk1, pk2, pk3, pk4, pk5, pk6])
   refine wpAnyH_take (i := 7) (oi := _) (v := ?_) rfl (by kernel_rfl) (by kernel_rfl) (by kernel_rfl) (fun _ _ _ h => h) (Or.inl ⟨by kernel_rfl, ?_⟩) hHeld ?_
   rotate_left
   ·intro wq hSw
    have hy0 : wq.cell? ⟨w.heap.size, 0, none⟩ = some (.int .i64 e.id) := (Below.cell hSw (p := ⟨w.heap.size, 0, none⟩) HE6.out.lt).trans (HEC0.out)
    go_simp
    (try with_reducible rfl)
   (try simp only [Act.put, pk1, pk2, pk3, pk4, pk5, pk6])
   refine wpAnyH_take (i := 8) (oi := _) (v := ?_) rfl (by kernel_rfl) (by kernel_rfl) (by kernel_rfl) (fun _ _ _ h => h) (Or.inl ⟨by kernel_rfl, ?_⟩) hHeld ?_
   rotate_left
   ·intro wq hSw
    have hee : (e.id == e.id) = true := by simp
    go_simp
    (try with_reducible rfl)
   (try simp only [Act.put, pk1, pk2, pk3, pk4, pk5, pk6])
   refine wpAnyH_take (i := 9) (oi := _) (v := ?_) rfl (by kernel_rfl) (by kernel_rfl) (by kernel_rfl) (fun _ _ _ h => h) (Or.inl ⟨by kernel_rfl, ?_⟩) hHeld ?_
   rotate_left
   ·intro wq hSw
    go_simp
    (try with_reducible rfl)
   (try simp only [Act.put, pk1, pk2, pk3, pk4, pk5, pk6])
   refine wpAnyH_take (i := 10) (oi := _) (v := ?_) rfl (by kernel_rfl) (by kernel_rfl) (by kernel_rfl) (fun _ _ _ h => h) (Or.inl ⟨by kernel_rfl, ?_⟩) hHeld ?_
   rotate_left
   ·intro wq hSw
    go_simp
    (try with_reducible rfl)
   (try simp only [Act.put, pk1, pk2, pk3, pk4, pk5, pk6])
   refine wpAnyH_take (i := 11) (oi := _) (v := ?_) rfl (by kernel_rfl) (by kernel_rfl) (by kernel_rfl) (fun _ _ _ h => h) (Or.inl ⟨by kernel_rfl, ?_⟩) hHeld ?_
   rotate_left
   ·intro wq hSw
    go_simp
    (try with_reducible rfl)
   (try simp only [Act.put, pk1, pk2, pk3, pk4, pk5, pk6])
   refine wpAnyH_take (i := 12) (oi := _) (v := ?_) rfl (by kernel_rfl) (by kernel_rfl) (by kernel_rfl) (fun _ _ _ h => h) (Or.inl ⟨by kernel_rfl, ?_⟩) hHeld ?_
   rotate_left
   ·intro wq hSw
    have hx2 : wq.cell? ⟨xb, 2, none⟩ = some (.int .i64 AE) := (HX6.out.below hSw HX6.out.lt).cell 2
    go_simp
    (try with_reducible rfl)
   (try simp only [Act.put, pk1, pk2, pk3, pk4, pk5, pk6])
   refine wpAnyH_take (i := 13) (oi := _) (v := _) rfl (by kernel_rfl) (by kernel_rfl) (by kernel_rfl) (fun _ _ _ h => h) (row_yields_u (X := Y.toArray) rfl Tryz.underlying34 HSE.out (fun W h => HE6.out.below h HE6.out.lt) (by kernel_rfl) _ rfl rfl) hHeld ?_
   (try simp only [Act.put, pk1, pk2, pk3, pk4, pk5, pk6])
   refine wpAnyH_take (i := 14) (oi := _) (v := ?_) rfl (by kernel_rfl) (by kernel_rfl) (by kernel_rfl) (fun _ _ _ h => h) (Or.inl ⟨by kernel_rfl, ?_⟩) hHeld ?_
   rotate_left
   ·intro wq hSw
    go_simp
    (try with_reducible rfl)
   (try simp only [Act.put, pk1, pk2, pk3, pk4, pk5, pk6])
   refine wpAnyH_ready (rs := [15]) (by kernel_rfl) (by simp) ?_
   refine AllReadyH.cons (o := _) rfl (fun K hK => ?_) AllReadyH.nil
   go_simp
   go_at_call 11
   refine (HPA.out wd (HB16.out.trans (HBd.out.mono HB16.out.size))).mono ?_
   rintro r wa ⟨rfl, hba⟩
   have HBa := hid (HBd.out.trans (hba.mono HBd.out.size))
   clear hba
   refine hK.out _ _ (HBa.out) (fun hHeld2 => ?_)
   clear hK K hHeld
   have hHeld := hHeld2
   clear hHeld2
   (try simp only [Act.put, pk1, pk2, pk3, pk4, pk5, pk6])
   refine wpAnyH_take (i := 16) (oi := _) (v := ?_) rfl (by kernel_rfl) (by kernel_rfl) (by kernel_rfl) (fun _ _ _ h => h) (Or.inl ⟨by kernel_rfl, ?_⟩) hHeld ?_
   rotate_left
   ·intro wq hSw
    have haa : (AE == AE) = true := by simp
    go_simp
    (try with_reducible rfl)
   (try simp only [Act.put, pk1, pk2, pk3, pk4, pk5, pk6])
   refine wpAnyH_take (i := 17) (oi := _) (v := ?_) rfl (by kernel_rfl) (by kernel_rfl) (by kernel_rfl) (fun _ _ _ h => h) (Or.inl ⟨by kernel_rfl, ?_⟩) hHeld ?_
   rotate_left
   ·intro wq hSw
    go_simp
    (try with_reducible rfl)
   (try simp only [Act.put, pk1, pk2, pk3, pk4, pk5, pk6])
   refine wpAnyH_take (i := 18) (oi := _) (v := ?_) rfl (by kernel_rfl) (by kernel_rfl) (by kernel_rfl) (fun _ _ _ h => h) (Or.inl ⟨by kernel_rfl, ?_⟩) hHeld ?_
   rotate_left
   ·intro wq hSw
    go_simp
    (try with_reducible rfl)
   (try simp only [Act.put, pk1, pk2, pk3, pk4, pk5, pk6])
   refine wpAnyH_take (i := 19) (oi := _) (v := _) rfl (by kernel_rfl) (by kernel_rfl) (by kernel_rfl) (fun _ _ _ h => h) (row_yields_u (X := #[.string (bstr [97, 108, 108, 111, 119, 101, 100]), .int .i64 e.id, .int .i64 AE, .slice A5 ks.length c5]) rfl Tryz.underlying42 HSX.out (fun W h => HX6.out.below h HX6.out.lt) (by kernel_rfl) _ rfl rfl) hHeld ?_
   (try simp only [Act.put, pk1, pk2, pk3, pk4, pk5, pk6])
   refine wpAnyH_ready (rs := [20]) (by kernel_rfl) (by simp) ?_
   refine AllReadyH.cons (o := _) rfl (fun K hK => ?_) AllReadyH.nil
   go_simp
   go_at_call 12
   refine (HEN.out wa HBa.out).mono ?_
   rintro r wb ⟨rfl, hbb⟩
   have HBb := hid (HBa.out.trans (hbb.mono HBa.out.size))
   clear hbb
   refine hK.out _ _ (HBb.out) (fun hHeld2 => ?_)
   clear hK K hHeld
   have hHeld := hHeld2
   clear hHeld2
   (try simp only [Act.put, pk1, pk2, pk3, pk4, pk5, pk6])
   refine wpAnyH_take (i := 21) (oi := _) (v := ?_) rfl (by kernel_rfl) (by kernel_rfl) (by kernel_rfl) (fun _ _ _ h => h) (Or.inl ⟨by kernel_rfl, ?_⟩) hHeld ?_
   rotate_left
   ·intro wq hSw
    go_simp
    (try with_reducible rfl)
   (try simp only [Act.put, pk1, pk2, pk3, pk4, pk5, pk6])
   refine wpAnyH_take (i := 22) (oi := _) (v := ?_) rfl (by kernel_rfl) (by kernel_rfl) (by kernel_rfl) (fun _ _ _ h => h) (Or.inl ⟨by kernel_rfl, ?_⟩) hHeld ?_
   rotate_left
   ·intro wq hSw
    go_simp
    (try with_reducible rfl)
   (try simp only [Act.put, pk1, pk2, pk3, pk4, pk5, pk6])
   refine wpAnyH_ready (rs := [23]) (by kernel_rfl) (by simp) ?_
   refine AllReadyH.cons (o := _) rfl (fun K hK => ?_) AllReadyH.nil
   go_simp
   go_at_call 10
   refine (live_any m wb ((Below.cell (HB16.out.trans (HBb.out.mono HB16.out.size)) (p := ⟨0, 0, none⟩) HM01.out).trans HM1.out)).mono ?_
   rintro r wc ⟨rfl, hbc⟩
   have HBc := hid (HBb.out.trans (hbc.mono HBb.out.size))
   clear hbc
   refine hK.out _ _ (HBc.out) (fun hHeld2 => ?_)
   clear hK K hHeld
   have hHeld := hHeld2
   clear hHeld2
   (try simp only [Act.put, pk1, pk2, pk3, pk4, pk5, pk6])
   refine wpAnyH_take (i := 24) (oi := _) (v := ?_) rfl (by kernel_rfl) (by kernel_rfl) (by kernel_rfl) (fun _ _ _ h => h) (Or.inl ⟨by kernel_rfl, ?_⟩) hHeld ?_
   rotate_left
   ·intro wq hSw
    go_simp
    (try with_reducible rfl)
   (try simp only [Act.put, pk1, pk2, pk3, pk4, pk5, pk6])
   refine wpAnyH_take (i := 25) (oi := _) (v := ?_) rfl (by kernel_rfl) (by kernel_rfl) (by kernel_rfl) (fun _ _ _ h => h) (Or.inl ⟨by kernel_rfl, ?_⟩) hHeld ?_
   rotate_left
   ·intro wq hSw
    go_simp
    (try with_reducible rfl)
   (try simp only [Act.put, pk1, pk2, pk3, pk4, pk5, pk6])
   refine wpAnyH_done (by kernel_rfl) ?_ _
   refine NoPanic.normal ?_
   go_wp2_with fail
   go_ret
   exact ⟨rfl, HB1.out.trans ((HB16.out.trans (HBc.out.mono HB16.out.size)).mono HB1.out.size)⟩
end Go.Proofs.YtacjhbbieeliaaaGreatDoor
