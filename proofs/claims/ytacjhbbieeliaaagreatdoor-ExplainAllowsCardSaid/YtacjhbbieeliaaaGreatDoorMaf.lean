/- The text Ec. -/
import Derived.Test.YtacjhbbieeliaaaGreatDoorMae
set_option linter.unusedSimpArgs false
set_option maxHeartbeats 16000000
set_option maxRecDepth 100000
namespace Go.Proofs.YtacjhbbieeliaaaGreatDoor
open Go.RowKit Go.Lib
set_option linter.unusedVariables false
set_option linter.unusedSimpArgs false
theorem psize_any : ∀ (m : Nat) (ok : Nat → Prop) (c : Rn.Tr) (V : Array Value) (w : World), Rn.nodes c ≤ m → m ≤ 1000000 → RnV w ok V c → Calls Tryz.prog 29 #[.agg V] w fun e w' => e = .returned (.int .i64 (Rn.nodes c : Int)) ∧ Below w.heap.size w w'
 | 0, ok, c, V, w, hm, _, h => absurd hm (by have := Rn.nodes_pos c; omega)
 | m + 1, ok, c, V, w, hm, hm6, h => by
  have IH := hid (fun c V w (hc : Rn.nodes c ≤ m) (h : RnV w ok V c) => psize_any m ok c V w hc (by omega) h)
  have hne := Rn.nodes_eq c
  have hde := Rn.nodes_eq c
  have hkl := Rn.kids_nodes c.kids
  have HV := hid (h.bel ((Below.refl w.heap.size w).alloc (Nat.le_refl _) (.cells V 42)))
  have hb1 := (Below.refl w.heap.size w).alloc (Nat.le_refl _) (.cells V 42)
  obtain ⟨A, cap, rfl, hrow⟩ := HV.out.open
  have HB1 := hid hb1
  have HR1 := hid hrow
  clear hb1 hrow h HV
  have hc3 : (w.alloc (.cells #[.string (bstr c.rule), .int .i64 c.id, .int .i64 c.err, .slice A c.kids.length cap] 42)).cell? ⟨w.heap.size, 3, none⟩ = some (.slice A c.kids.length cap) := (Blk.new w 42 _).cell 3
  generalize hw1 : w.alloc (.cells #[.string (bstr c.rule), .int .i64 c.id, .int .i64 c.err, .slice A c.kids.length cap] 42) = w1 at *
  generalize c.kids = ks at *
  have HNE := hid hde
  have hkm : Rn.nodesL ks ≤ m := by omega
  have hdl := Rn.depthL_nodes ks
  clear hne hde
  generalize Rn.nodes c = nc at *
  go_enter Tryz.func29, Tryz.ntmps29
  go_wp2_with fail
  go_loopw [3, 9] (fun sx ix wr => ∃ k : Nat, k ≤ ks.length ∧ ix = .int .i64 (k : Int) ∧ sx = .int .i64 ((Rn.nodesL (ks.take k) + 1 : Nat) : Int) ∧ Below w1.heap.size w1 wr) (fun _ ix _ => ks.length - (RowKit.intOf ix).toNat)
  case atStart => exact ⟨0, Nat.zero_le _, rfl, by simp [Rn.nodesL], Below.refl _ _⟩
  case round =>
   obtain ⟨k, hk, rfl, rfl, hb⟩ := hrel
   have HB := hid hb
   have hws := hb.size
   clear hb
   by_cases hlt : k < ks.length
   ·obtain ⟨x, hx⟩ : ∃ x, ks[k]? = some x := ⟨_, List.getElem?_eq_getElem hlt⟩
    obtain ⟨b, off, cs, rfl, hok, hr, hcl, hcv⟩ := (HR1.out.below HB.out) k x hx
    have HNX := hid (Rn.nodesL_take ks k x hx)
    have HDX := hid (Rn.nodesL_take ks k x hx)
    have hnk := Rn.nodes_kid hx
    have hne2 := Rn.nodesL_le ks (k + 1)
    have hsum : Rn.nodesL (ks.take k) + Rn.nodes x ≤ 1000000 := by rw [HNX.out] at hne2; omega
    have hdep := Rn.depth_nodes x
    have hdtk := Rn.depthL_nodes (ks.take k)
    have HCV := hid hcv
    have hone := hcv.one
    have HL2 : Hid ((Tryz.prog.info? 42).map (·.size) = some cs.length) := hid (by rw [size_rea, hcl])
    have HL3 : Hid ((Tryz.prog.info? 42).map (·.size) = some cs.toArray.size) := hid (by rw [size_rea, List.size_toArray, hcl])
    have HSZ : Hid (zRn.size = cs.toArray.size) := hid (by show 4 = cs.toArray.size; rw [List.size_toArray, hcl])
    clear hx hcv
    go_wp2_with (first
     | ((with_reducible refine wpList_load_mid rfl 42 _ rfl b (off + k * 4) ?_ cs _ hr Tryz.underlying42 ?_ HL2.out ?_); rfl; rfl)
     | ((with_reducible refine wpList_store_row' rfl 42 _ _ rfl wr.heap.size cs.toArray ?_ ?_ 42 _ (Blk.new wr 42 _) HL3.out ?_ hone ?_); rfl; rfl; exact HSZ.out; intro w2 hk2 hs2 hbl2)
     | (refine wpList_load_row rfl 42 _ rfl wr.heap.size rfl 42 cs.toArray (0, 0) _ hk2 Tryz.underlying42 rfl HL3.out ?_))
    have HBR2 : Hid (Below wr.heap.size wr w2) := hid (((Below.refl _ wr).alloc (Nat.le_refl _) (.cells zRn 42)).trans (hbl2 wr.heap.size (Nat.le_refl _)))
    refine (IH.out x cs.toArray w2 (by omega) (HCV.out.bel HBR2.out)).mono ?_
    rintro e w3 ⟨rfl, hb3⟩
    have HB3 := hid (HB.out.trans ((HBR2.out.trans (hb3.mono HBR2.out.size)).mono hws))
    clear hb3
    go_wp2_with fail
    go_roundw
    case rel => exact ⟨k + 1, hlt, by go_num, by rw [HDX.out]; go_num, HB3.out⟩
    case measure => simp [RowKit.intOf]; omega
   ·obtain rfl : k = ks.length := by omega
    have htk : ks.take ks.length = ks := List.take_length
    go_wp2_with fail
    go_ret
    refine ⟨?_, HB1.out.trans (HB.out.mono HB1.out.size)⟩
    have hz := HNE.out
    exact congrArg (fun n : Nat => Ending.returned (.int .i64 (n : Int))) (by rw [hz, htk])
theorem pdepth_any : ∀ (m : Nat) (ok : Nat → Prop) (c : Rn.Tr) (V : Array Value) (w : World), Rn.nodes c ≤ m → m ≤ 1000000 → RnV w ok V c → Calls Tryz.prog 30 #[.agg V] w fun e w' => e = .returned (.int .i64 (Rn.depth c : Int)) ∧ Below w.heap.size w w'
 | 0, ok, c, V, w, hm, _, h => absurd hm (by have := Rn.nodes_pos c; omega)
 | m + 1, ok, c, V, w, hm, hm6, h => by
  have IH := hid (fun c V w (hc : Rn.nodes c ≤ m) (h : RnV w ok V c) => pdepth_any m ok c V w hc (by omega) h)
  have hne := Rn.nodes_eq c
  have hde := Rn.depth_eq c
  have hkl := Rn.kids_nodes c.kids
  have HV := hid (h.bel ((Below.refl w.heap.size w).alloc (Nat.le_refl _) (.cells V 42)))
  have hb1 := (Below.refl w.heap.size w).alloc (Nat.le_refl _) (.cells V 42)
  obtain ⟨A, cap, rfl, hrow⟩ := HV.out.open
  have HB1 := hid hb1
  have HR1 := hid hrow
  clear hb1 hrow h HV
  have hc3 : (w.alloc (.cells #[.string (bstr c.rule), .int .i64 c.id, .int .i64 c.err, .slice A c.kids.length cap] 42)).cell? ⟨w.heap.size, 3, none⟩ = some (.slice A c.kids.length cap) := (Blk.new w 42 _).cell 3
  generalize hw1 : w.alloc (.cells #[.string (bstr c.rule), .int .i64 c.id, .int .i64 c.err, .slice A c.kids.length cap] 42) = w1 at *
  generalize c.kids = ks at *
  have HNE := hid hde
  have hkm : Rn.nodesL ks ≤ m := by omega
  have hdl := Rn.depthL_nodes ks
  clear hne hde
  generalize Rn.depth c = nc at *
  go_enter Tryz.func30, Tryz.ntmps30
  go_wp2_with fail
  go_loopw [3, 9] (fun sx ix wr => ∃ k : Nat, k ≤ ks.length ∧ ix = .int .i64 (k : Int) ∧ sx = .int .i64 ((Rn.depthL (ks.take k) : Nat) : Int) ∧ Below w1.heap.size w1 wr) (fun _ ix _ => ks.length - (RowKit.intOf ix).toNat)
  case atStart => exact ⟨0, Nat.zero_le _, rfl, by simp [Rn.depthL], Below.refl _ _⟩
  case round =>
   obtain ⟨k, hk, rfl, rfl, hb⟩ := hrel
   have HB := hid hb
   have hws := hb.size
   clear hb
   by_cases hlt : k < ks.length
   ·obtain ⟨x, hx⟩ : ∃ x, ks[k]? = some x := ⟨_, List.getElem?_eq_getElem hlt⟩
    obtain ⟨b, off, cs, rfl, hok, hr, hcl, hcv⟩ := (HR1.out.below HB.out) k x hx
    have HNX := hid (Rn.nodesL_take ks k x hx)
    have HDX := hid (Rn.depthL_take ks k x hx)
    have hnk := Rn.nodes_kid hx
    have hne2 := Rn.nodesL_le ks (k + 1)
    have hsum : Rn.nodesL (ks.take k) + Rn.nodes x ≤ 1000000 := by rw [HNX.out] at hne2; omega
    have hdep := Rn.depth_nodes x
    have hdtk := Rn.depthL_nodes (ks.take k)
    have HCV := hid hcv
    have hone := hcv.one
    have HL2 : Hid ((Tryz.prog.info? 42).map (·.size) = some cs.length) := hid (by rw [size_rea, hcl])
    have HL3 : Hid ((Tryz.prog.info? 42).map (·.size) = some cs.toArray.size) := hid (by rw [size_rea, List.size_toArray, hcl])
    have HSZ : Hid (zRn.size = cs.toArray.size) := hid (by show 4 = cs.toArray.size; rw [List.size_toArray, hcl])
    clear hx hcv
    go_wp2_with (first
     | ((with_reducible refine wpList_load_mid rfl 42 _ rfl b (off + k * 4) ?_ cs _ hr Tryz.underlying42 ?_ HL2.out ?_); rfl; rfl)
     | ((with_reducible refine wpList_store_row' rfl 42 _ _ rfl wr.heap.size cs.toArray ?_ ?_ 42 _ (Blk.new wr 42 _) HL3.out ?_ hone ?_); rfl; rfl; exact HSZ.out; intro w2 hk2 hs2 hbl2)
     | (refine wpList_load_row rfl 42 _ rfl wr.heap.size rfl 42 cs.toArray (0, 0) _ hk2 Tryz.underlying42 rfl HL3.out ?_))
    have HBR2 : Hid (Below wr.heap.size wr w2) := hid (((Below.refl _ wr).alloc (Nat.le_refl _) (.cells zRn 42)).trans (hbl2 wr.heap.size (Nat.le_refl _)))
    refine (IH.out x cs.toArray w2 (by omega) (HCV.out.bel HBR2.out)).mono ?_
    rintro e w3 ⟨rfl, hb3⟩
    have HB3 := hid (HB.out.trans ((HBR2.out.trans (hb3.mono HBR2.out.size)).mono hws))
    clear hb3
    go_wp2_with fail
    go_roundw
    case rel => exact ⟨k + 1, hlt, by go_num, by rw [HDX.out]; go_num, HB3.out⟩
    case measure => simp [RowKit.intOf]; omega
   ·obtain rfl : k = ks.length := by omega
    have htk : ks.take ks.length = ks := List.take_length
    go_wp2_with fail
    go_ret
    refine ⟨?_, HB1.out.trans (HB.out.mono HB1.out.size)⟩
    have hz := HNE.out
    rw [htk]
    exact congrArg Ending.returned (show _ = Value.int .i64 (nc : Int) by rw [hz]; go_num)
end Go.Proofs.YtacjhbbieeliaaaGreatDoor
