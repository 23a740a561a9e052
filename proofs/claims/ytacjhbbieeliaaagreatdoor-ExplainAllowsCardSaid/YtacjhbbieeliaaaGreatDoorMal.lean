/- The text Em. -/
import Derived.Stop.BytesEq
import Derived.Laws.CopyRow
import Derived.Lib.BufferWrite
import Derived.BigQuiet
import Derived.Deep.RegionHeld3
import Derived.Deep.MidRow
import Derived.Test.YtacjhbbieeliaaaGreatDoorMak
import Derived.Test.YtacjhbbieeliaaaGreatDoorMah
set_option linter.unusedSimpArgs false
set_option maxHeartbeats 16000000
set_option maxRecDepth 100000
namespace Go.Proofs.YtacjhbbieeliaaaGreatDoor
open Go.RowKit Go.Lib
set_option linter.unusedVariables false
set_option linter.unusedSimpArgs false
set_option maxRecDepth 100000
theorem rd_bytes {w : World} {g : Nat} {t : TypeId} {bs : List UInt8} (h : Blk w g t (bytesV bs)) : Rd w (some ⟨g, 0, none⟩) bs.length (bytesL bs) := by
 have := Rd.of_blk (vs := bytesL bs) h
 rwa [bytesL_len] at this
theorem digits_any (n : Int) (w : World) :
  Calls Tryz.prog 127 #[.int .i64 n] w fun e w' => e = .returned (.agg (Sm.dcells (Sm.cut n) 16)) ∧ Below w.heap.size w w' := by
 have hst := Sm.start_and n
 have hlt0 := Sm.cut_lt n
 generalize Sm.cut n = v at *
 go_enter Tryz.func127, Tryz.ntmps127
 go_wp2
 clear hst
 rw [← Sm.dcells_zero v]
 go_loopw [3, 5, 9] (fun u i j wr => ∃ k : Nat, k ≤ 16 ∧ j = .int .i64 k ∧ u = .int .u64 ((v / 16 ^ k : Nat) : Int) ∧ Blk wr w.heap.size 173 (Sm.dcells v 0) ∧ Blk wr (w.heap.size + 1) 173 (Sm.dcells v k) ∧ Below w.heap.size w wr) (fun _ _ j _ => 16 - (intOf j).toNat)
 case atStart =>
  refine ⟨0, by omega, rfl, by simp, (Blk.new _ _ _).alloc _, ?_, ((Below.refl _ _).alloc (Nat.le_refl _) _).alloc (by simp) _⟩
  have := Blk.new (w.alloc (.cells (Sm.dcells v 0) 173)) 173 (Sm.dcells v 0)
  simpa using this
 case round =>
  obtain ⟨k, hk, rfl, rfl, hb1, hb2, hbel⟩ := hrel
  by_cases hlt : k < 16
  ·have HS := hid (Sm.dcells_succ v k hlt)
   have HP := hid (Sm.pow_step v k)
   have hq0 := Sm.div_lt v k hlt0
   have hfz := hb2.frozen (15 - k)
   obtain ⟨old, hcell⟩ : ∃ old, wr.cell? ⟨w.heap.size + 1, 15 - k, none⟩ = some old := ⟨_, (hb2.cell (15 - k)).trans (Array.getElem?_eq_getElem (by rw [Sm.dcells_size]; omega))⟩
   generalize hq : v / 16 ^ k = q at *
   have hrem := Sm.rem16 q
   have hquo := Sm.quo16 q hq0
   have HX := hid (Sm.hx_get (q % 16) (by omega))
   have hm : q % 16 < 16 := by omega
   generalize q % 16 = m at *
   generalize hq2 : q / 16 = q2 at *
   have HQ := hid hq
   have HQ2 := hid hq2
   have hsz := hb2.lt
   clear hq hq2
   go_wp2
   go_roundw
   case rel =>
    refine ⟨k + 1, by omega, by go_num, congrArg (Value.int .u64) (by rw [← HP.out, ← HQ2.out]; omega), hb1.far (by simp) _, ?_, hbel.setCell (by simp) _⟩
    rw [← HS.out, ← HX.out]
    exact hb2.set_ _ _
   case measure => simp [intOf]; omega
  ·have : k = 16 := by omega
   subst this
   go_wp2_with (first | (refine wpList_load_row rfl 173 _ rfl (w.heap.size + 1) rfl 173 (Sm.dcells v 16) (0, 0) _ hb2 Tryz.underlying173 rfl (by rw [Sm.dcells_size]; kernel_rfl) ?_) | (refine wpList_store_row rfl 173 _ _ rfl w.heap.size (Sm.dcells v 16) rfl rfl 173 (Sm.dcells v 0) hb1 (by rw [Sm.dcells_size]; kernel_rfl) (by rw [Sm.dcells_size, Sm.dcells_size]) (Sm.dcells_one _ _) ?_))
   refine bodyPost_ret (v := .agg (Sm.dcells v 16)) (results_cell_row rfl _ _ w.heap.size 173 (Sm.dcells v 16) (0, 0) _ rfl (setRow_heap _ _ _ _ _ _ hb1) Tryz.underlying173 rfl (by rw [Sm.dcells_size]; kernel_rfl)) rfl ⟨rfl, ?_⟩
   exact below_setRow hbel (Nat.le_refl _) _
theorem hex_any (n : Int) (w : World) :
  Calls Tryz.prog 107 #[.int .i64 n] w fun e w' => e = .returned (.string ⟨(Sm.digs (Sm.cut n)).toArray⟩) ∧ Below w.heap.size w w' := by
 go_enter Tryz.func107, Tryz.ntmps107
 go_wp2_with (first | (go_at_call 127; refine (digits_any _ _).mono ?_; rintro e w1 ⟨rfl, hb1⟩) | (refine wpList_store_row' rfl 173 _ _ rfl _ (Sm.dcells (Sm.cut n) 16) rfl rfl 173 _ (Blk.new _ _ _) (by rw [Sm.dcells_size]; kernel_rfl) (by rw [Sm.dcells_size]; rfl) (Sm.dcells_one _ _) ?_; intro w2 hk2 hs2 hbl2; rw [Sm.dcells_full] at hk2; have hcv := run_conv_bs w2 114 9 5 Tryz.underlying114 Tryz.underlying5 Tryz.underlying9 (some ⟨w1.heap.size, 0, none⟩) 16 16 _ (rd_bytes hk2)))
 go_ret
 have hs1 := hb1.size
 exact ⟨rfl, (hb1.alloc (by omega) _).trans (hbl2 _ (by omega))⟩
theorem cons_str (c : UInt8) (tl : List UInt8) : (ByteArray.mk #[c]) ++ ByteArray.mk tl.toArray = ByteArray.mk (c :: tl).toArray := by
 apply ByteArray.ext
 simp
theorem ret_un {a b : Int} {x y : Bool} (h : a = b) (h' : x = y) : Ending.returned (.tuple #[.int .i64 a, .bool x]) = .returned (.tuple #[.int .i64 b, .bool y]) := by rw [h, h']
theorem wpList_copy_str {P : Program} {ops : Array Oper} {rest : List Oper} {o : Oper} {a : Act} {w : World} {Q : Exit → Act → World → Prop} (hgd : o.guard = none) (x y : Operand) (dT sT elem : TypeId)
  (ho : o.op = .call { callee := .builtin .copy, args := #[x, y], argTypes := #[dT, sT] })
  (g n cap : Nat) (s : ByteArray) (hx : a.eval x = .slice (some ⟨g, 0, none⟩) n cap) (hy : a.eval y = .string s) (hn : s.size = n)
  (hu : P.underlying dT = some (.slice elem)) (hs : (P.info? elem).map (·.size) = some 1)
  (t : TypeId) (old : Array Value) (hg : Blk w g t old) (hold : old.size = n)
  (h : ∀ w', Blk w' g t (bytesV s.data.toList) → w'.heap.size = w.heap.size → (∀ B, B ≤ g → Below B w w') → wpList P ops Q rest (a.put o.dst (goInt s.size)) w') : wpList P ops Q (o :: rest) a w := by
 refine wpList_plain hgd fun K hK => ?_
 have hrun := Lib.run_copy_row_string (P := P) w dT sT o.type elem g 0 n cap s old t hu hs hg (by omega) (by omega)
 have e : (old.toList.take 0 ++ Lib.byteCells s.data.toList ++ old.toList.drop (0 + s.size)).toArray = bytesV s.data.toList := by
  rw [List.take_zero, List.nil_append, List.drop_of_length_le (by rw [Array.length_toList]; omega), List.append_nil]
  rfl
 rw [e] at hrun
 unfold Oper.wp execOp
 simp only [ho, resolve, invoke, builtin, Sem.run_bind, Sem.run_pure, Result.andThen_ok, List.map_toArray, List.map_cons, List.map_nil, hx, hy, hrun]
 exact hK _ _ (h _ (setRow_heap _ _ _ _ _ _ hg) (setRow_size _ _ _) fun _ hB => below_setRow (Below.refl _ _) hB _)
theorem run_index_bytes {P : Program} (w : World) (t e : TypeId) (n : Nat) (bs : List UInt8) (k : Nat) (c : UInt8) (ht : P.underlying t = some (.array n e)) (he : P.underlying e = some (.int .u8)) (hi : (P.info? e).map (·.size) = some 1) (hl : bs.length = n) (hc : bs[k]? = some c) :
  (Instr.index t (.agg (bytesV bs)) (.int .i64 k)).run P w = .ok (.int .u8 (c.toNat : Int)) w := by
 obtain ⟨h1, h2⟩ := List.getElem?_eq_some_iff.1 hc
 cases hq : P.info? e with
 | none => simp [hq] at hi
 | some i =>
  have hs : i.size = 1 := by simpa [hq] using hi
  simp [Instr.index, asIntOf, run_underlying ht, sizeOf, typeInfo, hq, hs, part, isAgg, run_underlying he, bytesV, bytesL, List.getElem?_eq_getElem h1, h2]
  intro h; omega
theorem bytes_size16 (l : List UInt8) (h : l.length = 16) : (Tryz.prog.info? 173).map (·.size) = some (bytesV l).size := by
 have : (bytesV l).size = 16 := by simp [bytesV, bytesL, h]
 rw [this]
 rfl
theorem digits_nat (n : Nat) (w : World) (hn : n < 4611686018427387904) :
  Calls Tryz.prog 127 #[.int .i64 n] w fun e w' => e = .returned (.agg (bytesV (Sm.digs n))) ∧ Below w.heap.size w w' :=
 (digits_any n w).mono fun e w' ⟨h1, h2⟩ => ⟨by rw [h1, Sm.dcells_full, Sm.cut_nat n hn]; rfl, h2⟩
def cellsL (bs : List UInt8) : List Value := bs.map fun c => Value.int .u8 (c.toNat : Int)
theorem rangeAt_below {w w' : World} {B g : Nat} {cs : List Value} (h : w.rangeAt g 0 cs) (hb : Below B w w') (hg : g < B) : w'.rangeAt g 0 cs :=
 fun j v hj => (hb.cell (p := ⟨g, 0 + j, none⟩) hg).trans (h j v hj)
theorem rangeAt_blk {w : World} {g : Nat} {t : TypeId} {bs : List UInt8} (h : Blk w g t (bytesV bs)) : w.rangeAt g 0 (cellsL bs) := fun j v hj => by
 rw [h.cell, Nat.zero_add]
 show (cellsL bs).toArray[j]? = some v
 rw [List.getElem?_toArray]
 exact hj
theorem sz5 (w : World) : (sizeOf 5).run Tryz.prog w = .ok 1 w := by kernel_rfl
theorem run_eq_arr (a b : List UInt8) (ha : a.length = 16) (hb : b.length = 16) (w : World) : (Op.equalIn 10000 173 (.agg (bytesV a)) (.agg (cellsL b).toArray)).run Tryz.prog w = .ok (a == b) w :=
 run_equalIn_bytes (P := Tryz.prog) w 9998 173 5 16 Tryz.underlying173 Tryz.underlying5 sz5 a b ha hb
theorem unhex_any (s : ByteArray) (w : World) (hs : s.size ≤ 9223372036854775807) :
  Calls Tryz.prog 103 #[.string s] w fun e w' => e = .returned (.tuple #[.int .i64 (Sm.unN s.data.toList), .bool (Sm.unB s.data.toList)]) ∧ Below w.heap.size w w' := by
 have hsz := str_size s
 by_cases h16 : s.size = 16
 ·have HL : Hid (s.data.toList.length = 16) := hid (by omega)
  have ha := fun k h => at_str s k h
  have HA := hid ha
  have h16' : 16 ≤ s.size := by omega
  have h16'' : s.size ≤ 16 := by omega
  have hne2 : ((s.size : Int) != 16) = false := by rw [bne_eq_false_iff_eq]; omega
  have H16 := hid h16
  have HZ := hid hsz
  clear h16 hsz ha
  go_enter Tryz.func103, Tryz.ntmps103
  go_wp2_with (first | (with_reducible refine wpList_copy_str rfl _ _ 114 9 5 rfl w.heap.size 16 16 s rfl rfl H16.out Tryz.underlying114 (by kernel_rfl) 173 _ (Blk.new _ _ _) rfl ?_; intro w2 hk2 hs2 hbl2) | (refine wpList_load_row rfl 173 _ rfl w.heap.size rfl 173 (bytesV s.data.toList) (0, 0) _ hk2 Tryz.underlying173 rfl (bytes_size16 _ HL.out) ?_))
  go_loop [5, 7, 8, 17] (fun u _ _ i => ∃ k : Nat, k ≤ 16 ∧ i = .int .i64 k ∧ u = .int .u64 (Sm.pval (s.data.toList.take k))) (fun _ _ _ i => 16 - (intOf i).toNat)
  case atStart => exact ⟨0, by omega, rfl, rfl⟩
  case round =>
   obtain ⟨k, hk, rfl, rfl⟩ := hrel
   by_cases hlt : k < 16
   ·have hks : k < s.size := by omega
    have hck := HA.out k hks
    obtain ⟨c, hd⟩ : ∃ d, s[k]'hks = d := ⟨_, rfl⟩
    rw [hd] at hck
    have hix := run_index_bytes (P := Tryz.prog) w2 173 5 16 s.data.toList k c Tryz.underlying173 Tryz.underlying5 (by kernel_rfl) HL.out hck
    have hsm := Sm.take_lt s.data.toList k (by omega)
    have HN := hid (Sm.pval_take s.data.toList k c hck)
    have hc := c.toNat_lt
    have hpv := Sm.pv_lt c
    clear hck hd
    by_cases h97 : 97 ≤ c.toNat
    ·have hp := Sm.pv_high c h97
     go_wp2
     go_round
     case rel => exact ⟨k + 1, by omega, by go_num, congrArg (Value.int .u64) HN.out.symm⟩
     case measure => simp [intOf]; omega
    ·have hp := Sm.pv_low c h97
     go_wp2
     go_round
     case rel => exact ⟨k + 1, by omega, by go_num, congrArg (Value.int .u64) HN.out.symm⟩
     case measure => simp [intOf]; omega
   ·have : k = 16 := by omega
    subst this
    have ht : s.data.toList.take 16 = s.data.toList := List.take_of_length_le (by rw [HL.out]; omega)
    rw [ht]
    have hband := Sm.and_back s.data.toList HL.out
    have hlt2 := Sm.un2_lt s.data.toList
    have hw64 := Sm.back _ hlt2
    have HU := hid (Sm.un_two _ HL.out)
    have hneq := run_eq_arr (Sm.digs (Sm.un2 s.data.toList)) s.data.toList (Sm.digs_len _) HL.out
    go_wp2
    have hR := rangeAt_blk hk2
    have hz2 : w.heap.size < w2.heap.size := by rw [hs2]; simp
    have hu37 := Tryz.underlying173
    have hi37 : (Tryz.prog.info? 173).map (·.size) = some (cellsL s.data.toList).length := by rw [show (cellsL s.data.toList).length = 16 by unfold cellsL; rw [List.length_map, HL.out]]; rfl
    go_region_held3 (fun W => W.rangeAt w.heap.size 0 (cellsL s.data.toList)) (first | exact hR | exact rangeAt_below (w := World.drew _) hR hb3 hz2) (first | (go_at_call 127; refine (digits_nat _ _ hlt2).mono ?_; rintro e w3 ⟨rfl, hb3⟩))
    have hb4 : Below w.heap.size w w3 := ((((Below.refl _ _).alloc (Nat.le_refl _) _).trans (hbl2 _ (Nat.le_refl _))).drew).trans (hb3.mono (Nat.le_of_lt hz2))
    by_cases hdg : Sm.digs (Sm.un2 s.data.toList) = s.data.toList
    ·have hu := HU.out.trans (if_pos hdg)
     have h1 := hid (Sm.unN_some hu)
     have h2 := hid (Sm.unB_some hu)
     have hd2 : (Sm.digs (Sm.un2 s.data.toList) == s.data.toList) = true := beq_iff_eq.2 hdg
     have hd3 : (!(Sm.digs (Sm.un2 s.data.toList) == s.data.toList)) = false := by rw [hd2]; rfl
     clear hu hdg
     rw [hd3]
     go_wp2
     go_ret2
     exact ⟨ret_un h1.out.symm h2.out.symm, hb4⟩
    ·have hu := HU.out.trans (if_neg hdg)
     have h1 := hid (Sm.unN_none hu)
     have h2 := hid (Sm.unB_none hu)
     have hd2 : (Sm.digs (Sm.un2 s.data.toList) == s.data.toList) = false := beq_eq_false_iff_ne.2 hdg
     have hd3 : (!(Sm.digs (Sm.un2 s.data.toList) == s.data.toList)) = true := by rw [hd2]; rfl
     clear hu hdg
     rw [hd3]
     go_wp2
     go_ret2
     exact ⟨ret_un h1.out.symm h2.out.symm, hb4⟩
 ·have hu := Sm.un_long s.data.toList (by omega)
  have h1 := hid (Sm.unN_none hu)
  have h2 := hid (Sm.unB_none hu)
  have hne : ((s.size : Int) == 16) = false := beq_eq_false_iff_ne.2 (by omega)
  have hne2 : ((s.size : Int) != 16) = true := by rw [bne_iff_ne]; omega
  clear hu hsz
  go_enter Tryz.func103, Tryz.ntmps103
  go_wp2
  go_ret2
  exact ⟨ret_un h1.out.symm h2.out.symm, (Below.refl _ _).alloc (Nat.le_refl _) _⟩
end Go.Proofs.YtacjhbbieeliaaaGreatDoor
