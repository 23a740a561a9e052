/- The texts Oa, Ob, Oc, Od, Oe of this proof, one behind the other. -/
import Derived.Deep.MidRow
import Derived.Test.YtiidljciaccidaaGreatDoorMba
set_option linter.unusedSimpArgs false
set_option maxHeartbeats 16000000
set_option maxRecDepth 100000
set_option linter.unusedVariables false
/- The text Oa. -/
namespace Go.Proofs.YtiidljciaccidaaGreatDoor
open Go.RowKit Go.Lib
set_option linter.unusedVariables false
set_option linter.unusedSimpArgs false
abbrev OI (w : World) (base : Nat) (v : Value) (L : List Int) : Prop := w.ownsRow base 3 1 v L.length (intL L)
def RetI (L : List Int) (e : Ending) (w' : World) : Prop := ∃ A cap, e = .returned (.slice A L.length cap) ∧ L.length ≤ cap ∧ Rd w' A L.length (intL L)
theorem intL_len (L : List Int) : (intL L).length = L.length := by unfold intL; rw [List.length_map]
theorem intL_one (L : List Int) : ∀ u ∈ intL L, u.oneCell' = true := fun u hu => by
 unfold intL at hu
 obtain ⟨n, _, rfl⟩ := List.mem_map.1 hu
 rfl
theorem intL_app (a b : List Int) : intL (a ++ b) = intL a ++ intL b := List.map_append
theorem intL_take (L : List Int) (k : Nat) : intL (L.take k) = (intL L).take k := by unfold intL; rw [List.map_take]
theorem intL_drop (L : List Int) (k : Nat) : intL (L.drop k) = (intL L).drop k := by unfold intL; rw [List.map_drop]
section
variable {w w' : World} {base B n : Nat} {v : Value} {L M : List Int} {ops : Array Oper} {rest : List Oper} {o : Oper} {a : Act} {Q : Exit → Act → World → Prop} {A : Option Addr} {cap : Nat}
theorem OI.at_ (h : OI w base v L) : ∃ A cap, v = .slice A L.length cap ∧ L.length ≤ cap ∧ Rd w A L.length (intL L) := by
 obtain ⟨A, cap, e, h1, h2, -⟩ := own_at h
 exact ⟨A, cap, e, h1, by rw [Nat.mul_one] at h2; exact h2⟩
theorem OI.ret (h : OI w base v L) : RetI L (.returned v) w := by
 obtain ⟨A, cap, rfl, h1, h2⟩ := h.at_
 exact ⟨A, cap, rfl, h1, h2⟩
theorem OI.lit0 (w : World) (hb : base ≤ w.heap.size) : OI (w.alloc (.cells #[] 3)) base (.slice (some ⟨w.heap.size, 0, none⟩) 0 0) [] :=
 ⟨rfl, .inr ⟨w.heap.size, 0, #[], rfl, hb, Blk.new w 3 #[], Nat.le_refl _, by decide, rfl, rfl⟩⟩
theorem OI.lit1 (w : World) (y : Int) (hb : base ≤ w.heap.size) : OI (w.alloc (.cells #[.int .i64 y] 3)) base (.slice (some ⟨w.heap.size, 0, none⟩) 1 1) [y] :=
 ⟨rfl, .inr ⟨w.heap.size, 1, #[.int .i64 y], rfl, hb, Blk.new w 3 #[.int .i64 y], Nat.le_refl _, by decide, rfl, rfl⟩⟩
theorem Rd.cut (h : Rd w A L.length (intL L)) {k : Nat} (hk : k ≤ L.length) : Rd w A (L.take k).length (intL (L.take k)) := by
 refine ⟨by rw [intL_len], fun j v hj => ?_⟩
 rw [intL_take, List.getElem?_take] at hj
 split at hj
 ·exact h.2 j v hj
 ·cases hj
theorem Rd.tail_ {b off : Nat} {sp : Option _} (h : Rd w (some ⟨b, off, sp⟩) L.length (intL L)) (k : Nat) : Rd w (some ⟨b, off + k, sp⟩) (L.drop k).length (intL (L.drop k)) := by
 refine ⟨by rw [intL_len], fun j v hj => ?_⟩
 rw [intL_drop, List.getElem?_drop] at hj
 obtain ⟨g, o, e, hc⟩ := h.2 (k + j) v hj
 injection e with e
 injection e with e1 e2 e3
 subst e1 e2 e3
 exact ⟨b, off + k, rfl, by rw [Nat.add_assoc]; exact hc⟩
theorem app_ints (hgd : o.guard = none) (s x : Operand) (ho : o.op = .call { callee := .builtin .append, args := #[s, x], argTypes := #[24, 24] })
  (w : World) (m c : Nat) (hs : a.eval s = v) (hown : OI w base v L) (hx : a.eval x = .slice A m c) (hm : m = M.length) (hr : Rd w A M.length (intL M)) (hbase : base ≤ w.heap.size) (hlen : L.length + M.length ≤ 1000000000)
  (h : ∀ v' w', OI w' base v' (L ++ M) → (∀ w0, Below base w0 w → Below base w0 w') → wpList Tryz.prog ops Q rest (a.put o.dst v') w') :
  wpList Tryz.prog ops Q (o :: rest) a w := by
 subst hm
 refine app_row rowIntU hgd s x ho w v L.length (intL L) (intL M) base hs hown A M.length c hx (by rw [Nat.mul_one]; exact hr) (intL_one M) hbase (by omega) (fun v' w' h1 h2 h3 h4 => ?_)
 exact h v' w' (by show w'.ownsRow base 3 1 v' (L ++ M).length (intL (L ++ M)); rw [List.length_append, intL_app]; exact h1) h3
theorem app_one (hgd : o.guard = none) (s x : Operand) (ho : o.op = .call { callee := .builtin .append, args := #[s, x], argTypes := #[24, 24] })
  (wr : World) (y : Int) (hs : a.eval s = v) (hown : OI wr base v L) (hx : a.eval x = .slice (some ⟨wr.heap.size, 0, none⟩) 1 1) (hbase : base ≤ wr.heap.size) (hlen : L.length ≤ 100000000)
  (h : ∀ v' w', OI w' base v' (L ++ [y]) → (∀ w0, Below base w0 wr → Below base w0 w') → wpList Tryz.prog ops Q rest (a.put o.dst v') w') :
  wpList Tryz.prog ops Q (o :: rest) a (wr.alloc (.cells #[.int .i64 y] 3)) := by
 have hba := (Below.refl wr.heap.size wr).alloc (Nat.le_refl _) (.cells #[.int .i64 y] 3)
 refine app_ints (M := [y]) hgd s x ho (wr.alloc (.cells #[.int .i64 y] 3)) 1 1 hs (own_bel hown hba) hx rfl ⟨rfl, fun j u hj => ⟨wr.heap.size, 0, rfl, by rw [Nat.zero_add, (Blk.new wr 3 #[.int .i64 y]).cell j, List.getElem?_toArray]; exact hj⟩⟩ (by simp; omega) (by show L.length + 1 ≤ 1000000000; omega) (fun v' w' h1 h2 => ?_)
 exact h v' w' h1 (fun w0 hb => h2 w0 (hb.alloc hbase _))
end
def isI (x y : Int) : Bool := y == x
theorem has_step {L : List Int} {k : Nat} {x z : Int} (hz : L[k]? = some z) (h : (L.take k).contains x = false) (hn : z ≠ x) : (L.take (k + 1)).contains x = false := by
 cases hc : (L.take (k + 1)).contains x with
 | false => rfl
 | true =>
  rw [List.contains_iff_mem, take_more hz, List.mem_append] at hc
  rcases hc with hc | hc
  ·rw [← List.contains_iff_mem, h] at hc; cases hc
  ·exact absurd (List.mem_singleton.1 hc).symm hn
theorem has_hit {L : List Int} {k : Nat} {x : Int} (hz : L[k]? = some x) : L.contains x = true := by rw [List.contains_iff_mem]; exact List.mem_of_getElem? hz
theorem ix_has (x : Int) (L : List Int) : (ixF (isI x) 0 L = -1 ∧ L.contains x = false) ∨ ∃ i : Nat, ixF (isI x) 0 L = (i : Int) ∧ L.contains x = true := by
 rcases ix_find (isI x) L 0 with ⟨h1, h2⟩ | ⟨i, y, h1, h2, h3⟩
 ·refine .inl ⟨h1, ?_⟩
  cases hc : L.contains x with
  | false => rfl
  | true =>
   rw [List.contains_iff_mem] at hc
   have := List.find?_eq_none.1 h2 x hc
   simp [isI] at this
 ·refine .inr ⟨i, by rw [h1, Nat.zero_add], ?_⟩
  have h4 : isI x y = true := List.find?_some h3
  have : y = x := by simpa [isI] using h4
  rw [← this]
  exact has_hit h2
theorem has_any (L : List Int) (A : Option Addr) (cap : Nat) (x : Int) (w : World) (hA : Rd w A L.length (intL L)) (hl : L.length ≤ 1000000) :
  Calls Tryz.prog 95 #[.slice A L.length cap, .int .i64 x] w fun e w' => e = .returned (.bool (L.contains x)) ∧ w' = w := by
 obtain ⟨R, hR⟩ : ∃ R, R = L.contains x := ⟨_, rfl⟩
 have HR := hid hR
 have HA := hid hA
 rw [← hR]
 clear hR hA
 go_enter Tryz.func95, Tryz.ntmps95
 go_wp2_with fail
 go_loopw [5] (fun ix wr => ∃ k : Nat, k ≤ L.length ∧ ix = .int .i64 (k : Int) ∧ Hid ((L.take k).contains x = false) ∧ w = wr) (fun ix _ => L.length - (RowKit.intOf ix).toNat)
 case atStart => exact ⟨0, Nat.zero_le _, rfl, hid rfl, rfl⟩
 case round =>
  obtain ⟨k, hk, rfl, HT, hw⟩ := hrel
  subst hw
  by_cases hlt : k < L.length
  ·obtain ⟨z, hz⟩ : ∃ z, L[k]? = some z := ⟨_, List.getElem?_eq_getElem hlt⟩
   obtain ⟨g, og, rfl, hc⟩ := HA.out.2 k _ (intL_at hz)
   have HZ := hid hz
   have hck : k + 1 ≤ L.length := hlt
   clear hz
   by_cases hzx : z = x
   ·subst hzx
    have hbe : (z == z) = true := by simp
    have HRT : Hid (R = true) := hid (by rw [HR.out]; exact has_hit HZ.out)
    go_wp2_with fail
    go_ret
    exact ⟨ret_bool HRT.out.symm, rfl⟩
   ·have hbe : (z == x) = false := by simp; exact hzx
    have HT2 := hid (has_step HZ.out HT.out hzx)
    clear hzx
    go_wp2_with fail
    go_roundw
    case rel => exact ⟨k + 1, hck, by go_num, HT2, trivial⟩
    case measure => simp [RowKit.intOf]; omega
  ·obtain rfl : k = L.length := by omega
   have HRF : Hid (R = false) := hid (by rw [HR.out]; have := HT.out; rwa [List.take_length] at this)
   go_wp2_with fail
   go_ret
   exact ⟨ret_bool HRF.out.symm, rfl⟩
theorem rplace_any (L : List Int) (A : Option Addr) (cap : Nat) (x : Int) (w : World) (hA : Rd w A L.length (intL L)) (hl : L.length ≤ 1000000) :
  Calls Tryz.prog 15 #[.slice A L.length cap, .int .i64 x] w fun e w' => e = .returned (.int .i64 (ixF (isI x) 0 L)) ∧ w' = w := by
 obtain ⟨R, hR⟩ : ∃ R, R = ixF (isI x) 0 L := ⟨_, rfl⟩
 have HR0 : Hid (R = ixF (isI x) 0 (L.drop 0)) := hid (by rw [hR]; rfl)
 have HA := hid hA
 rw [← hR]
 clear hR hA
 go_enter Tryz.func15, Tryz.ntmps15
 go_wp2_with fail
 go_loopw [5] (fun ix wr => ∃ k : Nat, k ≤ L.length ∧ ix = .int .i64 (k : Int) ∧ Hid (R = ixF (isI x) k (L.drop k)) ∧ w = wr) (fun ix _ => L.length - (RowKit.intOf ix).toNat)
 case atStart => exact ⟨0, Nat.zero_le _, rfl, HR0, rfl⟩
 case round =>
  obtain ⟨k, hk, rfl, HR, hw⟩ := hrel
  subst hw
  by_cases hlt : k < L.length
  ·obtain ⟨z, hz⟩ : ∃ z, L[k]? = some z := ⟨_, List.getElem?_eq_getElem hlt⟩
   obtain ⟨g, og, rfl, hc⟩ := HA.out.2 k _ (intL_at hz)
   have HX := hid (ix_drop (isI x) hz)
   have hck : k + 1 ≤ L.length := hlt
   clear hz
   by_cases hzx : z = x
   ·subst hzx
    have hbe : (z == z) = true := by simp
    have HRT : Hid (R = (k : Int)) := hid (by rw [HR.out, HX.out]; simp [isI])
    go_wp2_with fail
    go_ret
    exact ⟨ret_int HRT.out.symm, rfl⟩
   ·have hbe : (z == x) = false := by simp; exact hzx
    have HR2 : Hid (R = ixF (isI x) (k + 1) (L.drop (k + 1))) := hid (by rw [HR.out, HX.out]; simp [isI, hzx])
    clear hzx
    go_wp2_with fail
    go_roundw
    case rel => exact ⟨k + 1, hck, by go_num, HR2, trivial⟩
    case measure => simp [RowKit.intOf]; omega
  ·obtain rfl : k = L.length := by omega
   have HRF : Hid (R = -1) := hid (by rw [HR.out, List.drop_length]; rfl)
   go_wp2_with fail
   go_ret
   exact ⟨ret_int HRF.out.symm, rfl⟩
theorem replace_any (ok : Nat → Prop) (l : List Co.Ev) (A : Option Addr) (cap : Nat) (x : Int) (w : World) (h : EvRow ok w A l) (hl : l.length ≤ 1000000) :
  Calls Tryz.prog 26 #[.slice A l.length cap, .int .i64 x] w fun e w' => e = .returned (.int .i64 (ixF (hasId x) 0 l)) ∧ w' = w := by
 obtain ⟨R, hR⟩ : ∃ R, R = ixF (hasId x) 0 l := ⟨_, rfl⟩
 have HR0 : Hid (R = ixF (hasId x) 0 (l.drop 0)) := hid (by rw [hR]; rfl)
 have HROW := hid h
 rw [← hR]
 clear hR h
 go_enter Tryz.func26, Tryz.ntmps26
 go_wp2_with fail
 go_loopw [5] (fun ix wr => ∃ k : Nat, k ≤ l.length ∧ ix = .int .i64 (k : Int) ∧ Hid (R = ixF (hasId x) k (l.drop k)) ∧ w = wr) (fun ix _ => l.length - (RowKit.intOf ix).toNat)
 case atStart => exact ⟨0, Nat.zero_le _, rfl, HR0, rfl⟩
 case round =>
  obtain ⟨k, hk, rfl, HR, hw⟩ := hrel
  subst hw
  by_cases hlt : k < l.length
  ·obtain ⟨y, b, off, X, hy, rfl, hok, hbl, hr, hv⟩ := HROW.out.at_ hlt
   have HX := hid (ix_drop (hasId x) hy)
   have hck : k + 1 ≤ l.length := hlt
   have hc : w.cell? ⟨b, off + k * 29, none⟩ = some (.int .i64 y.id) := by have := hr 0 _ hv.c0; rwa [Nat.add_zero] at this
   have HID : Hid (hasId x y = (y.id == x)) := hid rfl
   clear hy hr hv
   generalize y.id = z at *
   by_cases hzx : z = x
   ·subst hzx
    have hbe : (z == z) = true := by simp
    have HRT : Hid (R = (k : Int)) := hid (by rw [HR.out, HX.out, HID.out]; simp)
    go_wp2_with fail
    go_ret
    exact ⟨ret_int HRT.out.symm, rfl⟩
   ·have hbe : (z == x) = false := by simp; exact hzx
    have HR2 : Hid (R = ixF (hasId x) (k + 1) (l.drop (k + 1))) := hid (by rw [HR.out, HX.out, HID.out]; simp [hzx])
    clear hzx
    go_wp2_with fail
    go_roundw
    case rel => exact ⟨k + 1, hck, by go_num, HR2, trivial⟩
    case measure => simp [RowKit.intOf]; omega
  ·obtain rfl : k = l.length := by omega
   have HRF : Hid (R = -1) := hid (by rw [HR.out, List.drop_length]; rfl)
   go_wp2_with fail
   go_ret
   exact ⟨ret_int HRF.out.symm, rfl⟩
theorem rget_any (ok : Nat → Prop) (l : List Co.Ev) (A : Option Addr) (cap : Nat) (id : Int) (w : World) (h : EvRow ok w A l) (hl : l.length ≤ 1000000) :
  Calls Tryz.prog 13 #[.slice A l.length cap, .int .i64 id] w fun e w' => FoundA ok (Co.getE l id) e w' ∧ Below w.heap.size w w' := by
 have hb0 := (Below.refl w.heap.size w).alloc (Nat.le_refl _) (.cells zEv 41)
 have HK := hid (Blk.new w 41 zEv)
 have HP := hid (replace_any ok l A cap id _ (h.bel hb0) hl)
 have HROW := hid (h.bel hb0)
 have HB0 := hid hb0
 have HH := hid h
 clear h hb0
 have hs0 : w.heap.size < (w.alloc (.cells zEv 41)).heap.size := by simp
 generalize hw1 : w.alloc (.cells zEv 41) = w1 at *
 have HIX := hid (ix_find0 (hasId id) l)
 generalize ixF (hasId id) 0 l = i0 at *
 rcases HIX.out with ⟨rfl, hf⟩ | ⟨i, x, rfl, hi, hf⟩
 ·have HG : Hid (Co.getE l id = none) := hid hf
  clear hf HIX
  go_enter Tryz.func13, Tryz.ntmps13
  go_wp2_with fail
  refine HP.out.mono ?_
  rintro e w2 ⟨rfl, hw2⟩
  have hb2 : Below w1.heap.size w1 w2 := by rw [hw2]; exact Below.refl _ _
  clear hw2
  have HB2 := hid (HB0.out.trans (hb2.mono HB0.out.size))
  have HK2 := hid (HK.out.below hb2 hs0)
  clear hb2
  go_wp2_with ((with_reducible refine store_rowe rfl 41 _ _ rfl w.heap.size zEv ?_ ?_ 41 zEv HK2.out size_zev ?_ (by kernel_rfl) ?_); rfl; rfl; rfl)
  refine bodyPost_ret (results_row_tmp rfl _ _ w.heap.size _ _ _ rfl (setRow_heap _ _ _ _ _ _ HK2.out) Tryz.underlying41 rfl size_zev) rfl ⟨⟨zEv, by rw [HG.out]; rfl, by rw [HG.out]; exact zev_evV⟩, below_setRow HB2.out (Nat.le_refl _) _⟩
 ·have HG : Hid (Co.getE l id = some x) := hid hf
  obtain ⟨b, off, X, rfl, hok, hr, hv⟩ := HH.out i x hi
  have hil : i < l.length := (List.getElem?_eq_some_iff.1 hi).1
  have hone := EvS.all hv
  have HL2 := hid (size_evL hv)
  have HL3 := hid (size_evA hv)
  have HSZ : Hid (zEv.size = X.toArray.size) := hid (by show 29 = X.toArray.size; rw [List.size_toArray, hv.len])
  have hbl : b < w.heap.size := range_lt hr (by rw [hv.len]; decide)
  have HR := hid hr
  have HV := hid hv
  clear hf HIX hi hr hv
  go_enter Tryz.func13, Tryz.ntmps13
  go_wp2_with fail
  refine HP.out.mono ?_
  rintro e w2 ⟨rfl, hw2⟩
  have hb2 : Below w1.heap.size w1 w2 := by rw [hw2]; exact Below.refl _ _
  clear hw2
  have HB2 := hid (HB0.out.trans (hb2.mono HB0.out.size))
  have HK2 := hid (HK.out.below hb2 hs0)
  have hrr : w2.rangeAt b (off + i * 29) X := range_keep HR.out (HB2.out.block b hbl)
  clear hb2
  go_wp2_with (first
   | ((with_reducible refine wpList_load_mid rfl 41 _ rfl b (off + i * 29) ?_ X _ hrr Tryz.underlying41 ?_ HL2.out ?_); rfl; rfl)
   | ((with_reducible refine store_rowe rfl 41 _ _ rfl w.heap.size X.toArray ?_ ?_ 41 zEv HK2.out HL3.out ?_ hone ?_); rfl; rfl; exact HSZ.out))
  have hbf := below_setRow HB2.out (Nat.le_refl _) X.toArray
  refine bodyPost_ret (results_row_tmp rfl _ _ w.heap.size _ _ _ rfl (setRow_heap _ _ _ _ _ _ HK2.out) Tryz.underlying41 rfl HL3.out) rfl ⟨⟨X.toArray, by rw [HG.out]; rfl, by rw [HG.out]; exact EvV.bel HV.out hbf⟩, hbf⟩
end Go.Proofs.YtiidljciaccidaaGreatDoor
/- The text Ob. -/
namespace Go.Proofs.YtiidljciaccidaaGreatDoor
open Go.RowKit Go.Lib
set_option linter.unusedVariables false
set_option linter.unusedSimpArgs false
theorem lt_step {L : List Int} {k : Nat} {x z : Int} (hz : L[k]? = some z) (h : ∀ y, y ∈ L.take k → y < x) (hn : z < x) : ∀ y, y ∈ L.take (k + 1) → y < x := fun y hy => by
 rw [take_more hz, List.mem_append] at hy
 rcases hy with hy | hy
 ·exact h y hy
 ·rw [List.mem_singleton.1 hy]; exact hn
theorem put_any (L : List Int) (A : Option Addr) (cap : Nat) (x : Int) (w : World) (hI : Co.Incr L) (hc : L.length ≤ cap) (hA : Rd w A L.length (intL L)) (hl : L.length ≤ 1000000) :
  Calls Tryz.prog 53 #[.slice A L.length cap, .int .i64 x] w fun e w' => RetI (Co.putU x L) e w' ∧ Below w.heap.size w w' := by
 have HI := hid hI
 have HA := hid hA
 have HHAS := hid (has_any L A cap x w hA hl)
 clear hI hA
 obtain ⟨R, hR⟩ : ∃ R, R = Co.putU x L := ⟨_, rfl⟩
 have HR := hid hR
 rw [← hR]
 clear hR
 cases hx : L.contains x with
 | true =>
  have HR2 : Hid (R = L) := hid (by rw [HR.out]; exact Co.putU_has HI.out (List.contains_iff_mem.1 hx))
  have HRT : Hid (RetI R (.returned (.slice A L.length cap)) w) := hid (by rw [HR2.out]; exact ⟨A, cap, rfl, hc, HA.out⟩)
  go_enter Tryz.func53, Tryz.ntmps53
  go_wp2_with fail
  refine HHAS.out.mono ?_
  rintro e w2 ⟨rfl, rfl⟩
  rw [hx]
  clear hx
  go_wp2_with fail
  go_ret
  exact ⟨HRT.out, Below.refl _ _⟩
 | false =>
  have HX := hid hx
  cases A with
  | none =>
   obtain ⟨hn, -⟩ := HA.out.none_
   obtain rfl : L = [] := List.eq_nil_of_length_eq_zero hn
   have HPUT : Hid (R = [x]) := hid HR.out
   have HA0 : ∀ W : World, Rd W none 0 (intL []) := fun W => ⟨rfl, fun j v hj => by cases hj⟩
   go_enter Tryz.func53, Tryz.ntmps53
   go_wp2_with fail
   refine HHAS.out.mono ?_
   rintro e w2 ⟨rfl, rfl⟩
   rw [hx]
   clear hx
   go_wp2_with fail
   go_loopw [5] (fun ix wr => ix = .int .i64 0 ∧ w2 = wr) (fun ix _ => 0)
   case atStart => exact ⟨rfl, rfl⟩
   case round =>
    obtain ⟨rfl, hw⟩ := hrel
    subst hw
    have HB0 := hid ((Below.refl w2.heap.size w2).alloc (Nat.le_refl _) (.cells #[] 3))
    have HO0 := hid (OI.lit0 (base := w2.heap.size) w2 (Nat.le_refl _))
    have HS0 : Hid (w2.heap.size ≤ (w2.alloc (.cells #[] 3)).heap.size) := hid HB0.out.size
    generalize hw3 : w2.alloc (.cells #[] 3) = w3 at *
    go_wp2_with (first
     | ((with_reducible refine app_ints (L := []) (M := []) rfl _ _ rfl w3 0 cap ?_ HO0.out ?_ rfl (HA0 w3) HS0.out ?_ ?_); rfl; rfl; (simp only [List.length_nil]; omega); intro v4 w4 ho4 hb4; have HO4 : Hid (OI w4 w2.heap.size v4 []) := hid ho4; have HB4 := hid (hb4 w2 HB0.out); have HS4 := hid HB4.out.size; clear ho4 hb4)
     | ((with_reducible refine app_one rfl _ _ rfl w4 x ?_ HO4.out ?_ HS4.out ?_ ?_); rfl; rfl; (simp only [List.length_nil]; omega); intro v5 w5 ho5 hb5; have HO5 : Hid (OI w5 w2.heap.size v5 [x]) := hid ho5; have HB5 := hid (hb5 w2 HB4.out); have HS5 := hid HB5.out.size; clear ho5 hb5)
     | ((with_reducible refine app_ints (M := []) rfl _ _ rfl w5 0 cap ?_ HO5.out ?_ rfl (HA0 w5) HS5.out ?_ ?_); rfl; rfl; (simp only [List.length_nil, List.length_singleton]; omega); intro v6 w6 ho6 hb6; have HO6 : Hid (OI w6 w2.heap.size v6 [x]) := hid ho6; have HB6 := hid (hb6 w2 HB5.out); clear ho6 hb6))
    go_ret
    exact ⟨by rw [HPUT.out]; exact OI.ret HO6.out, HB6.out⟩
  | some ad =>
   obtain ⟨b, off, sp⟩ := ad
   go_enter Tryz.func53, Tryz.ntmps53
   go_wp2_with fail
   refine HHAS.out.mono ?_
   rintro e w2 ⟨rfl, rfl⟩
   rw [hx]
   clear hx
   go_wp2_with fail
   go_loopw [5] (fun ix wr => ∃ k : Nat, k ≤ L.length ∧ ix = .int .i64 (k : Int) ∧ Hid (∀ y, y ∈ L.take k → y < x) ∧ w2 = wr) (fun ix _ => L.length - (RowKit.intOf ix).toNat)
   case atStart => exact ⟨0, Nat.zero_le _, rfl, hid (fun y hy => by cases hy), rfl⟩
   case round =>
    obtain ⟨k, hk, rfl, HT, hw⟩ := hrel
    subst hw
    by_cases hlt : k < L.length
    ·obtain ⟨z, hz⟩ : ∃ z, L[k]? = some z := ⟨_, List.getElem?_eq_getElem hlt⟩
     obtain ⟨g, og, hbe, hc⟩ := HA.out.2 k _ (intL_at hz)
     injection hbe with hbe
     injection hbe with e1 e2 e3
     subst e1 e2 e3
     have HZ := hid hz
     have hck : k + 1 ≤ L.length := hlt
     clear hz
     by_cases hzx : z < x
     ·have HT2 := hid (lt_step HZ.out HT.out hzx)
      go_wp2_with fail
      go_roundw
      case rel => exact ⟨k + 1, hck, by go_num, HT2, trivial⟩
      case measure => simp [RowKit.intOf]; omega
     ·have HAT : Hid (∀ y, L[k]? = some y → x < y) := hid (fun y hy => by
       rw [HZ.out] at hy
       injection hy with hy
       subst hy
       have hne : z ≠ x := fun e => by
        have := HX.out
        rw [← e, has_hit HZ.out] at this
        cases this
       omega)
      have HPUT : Hid (R = L.take k ++ [x] ++ L.drop k) := hid (by rw [HR.out]; exact Co.putU_at k HT.out HAT.out hk)
      have HMK : Hid (k = (L.take k).length) := hid (by rw [List.length_take]; omega)
      have HMD : Hid (L.length - k = (L.drop k).length) := hid (by rw [List.length_drop])
      have HRC := hid ((HA.out.cut (k := k) hk).below ((Below.refl w2.heap.size w2).alloc (Nat.le_refl _) (.cells #[] 3)))
      have HRD := hid (HA.out.tail_ k)
      have HLT : Hid ((L.take k).length ≤ 1000000) := hid (by rw [List.length_take]; omega)
      have HLD : Hid ((L.drop k).length ≤ 1000000) := hid (by rw [List.length_drop]; omega)
      have HB0 := hid ((Below.refl w2.heap.size w2).alloc (Nat.le_refl _) (.cells #[] 3))
      have HO0 := hid (OI.lit0 (base := w2.heap.size) w2 (Nat.le_refl _))
      have HS0 : Hid (w2.heap.size ≤ (w2.alloc (.cells #[] 3)).heap.size) := hid HB0.out.size
      generalize hw3 : w2.alloc (.cells #[] 3) = w3 at *
      go_wp2_with (first
       | ((with_reducible refine app_ints (L := []) (M := L.take k) rfl _ _ rfl w3 k cap ?_ HO0.out ?_ HMK.out HRC.out HS0.out ?_ ?_); rfl; rfl; (have := HLT.out; simp only [List.length_nil]; omega); intro v4 w4 ho4 hb4; have HO4 : Hid (OI w4 w2.heap.size v4 (L.take k)) := hid ho4; have HB4 := hid (hb4 w2 HB0.out); have HS4 := hid HB4.out.size; clear ho4 hb4)
       | ((with_reducible refine app_one rfl _ _ rfl w4 x ?_ HO4.out ?_ HS4.out ?_ ?_); rfl; rfl; (have := HLT.out; omega); intro v5 w5 ho5 hb5; have HO5 := hid ho5; have HB5 := hid (hb5 w2 HB4.out); have HS5 := hid HB5.out.size; have HRD5 := hid (HRD.out.below HB5.out); clear ho5 hb5)
       | ((with_reducible refine app_ints (M := L.drop k) rfl _ _ rfl w5 (L.length - k) (cap - k) ?_ HO5.out ?_ HMD.out HRD5.out HS5.out ?_ ?_); rfl; rfl; (have := HLT.out; have := HLD.out; rw [List.length_append, List.length_singleton]; omega); intro v6 w6 ho6 hb6; have HO6 := hid ho6; have HB6 := hid (hb6 w2 HB5.out); clear ho6 hb6))
      go_ret
      exact ⟨by rw [HPUT.out]; exact OI.ret HO6.out, HB6.out⟩
    ·have HPUT : Hid (R = L.take k ++ [x] ++ L.drop k) := hid (by rw [HR.out]; exact Co.putU_at k HT.out (fun y hy => by rw [List.getElem?_eq_none (by omega)] at hy; cases hy) hk)
     have HMK : Hid (k = (L.take k).length) := hid (by rw [List.length_take]; omega)
     have HRC := hid ((HA.out.cut (k := k) hk).below ((Below.refl w2.heap.size w2).alloc (Nat.le_refl _) (.cells #[] 3)))
     have HDN : Hid (L.drop k = []) := hid (List.drop_eq_nil_of_le (by omega))
     have HM0 : Hid (L.length - k = ([] : List Int).length) := hid (by rw [List.length_nil]; omega)
     have HLT : Hid ((L.take k).length ≤ 1000000) := hid (by rw [List.length_take]; omega)
     have HB0 := hid ((Below.refl w2.heap.size w2).alloc (Nat.le_refl _) (.cells #[] 3))
     have HO0 := hid (OI.lit0 (base := w2.heap.size) w2 (Nat.le_refl _))
     have HS0 : Hid (w2.heap.size ≤ (w2.alloc (.cells #[] 3)).heap.size) := hid HB0.out.size
     generalize hw3 : w2.alloc (.cells #[] 3) = w3 at *
     go_wp2_with (first
      | ((with_reducible refine app_ints (L := []) (M := L.take k) rfl _ _ rfl w3 k cap ?_ HO0.out ?_ HMK.out HRC.out HS0.out ?_ ?_); rfl; rfl; (have := HLT.out; simp only [List.length_nil]; omega); intro v4 w4 ho4 hb4; have HO4 : Hid (OI w4 w2.heap.size v4 (L.take k)) := hid ho4; have HB4 := hid (hb4 w2 HB0.out); have HS4 := hid HB4.out.size; clear ho4 hb4)
      | ((with_reducible refine app_one rfl _ _ rfl w4 x ?_ HO4.out ?_ HS4.out ?_ ?_); rfl; rfl; (have := HLT.out; omega); intro v5 w5 ho5 hb5; have HO5 := hid ho5; have HB5 := hid (hb5 w2 HB4.out); have HS5 := hid HB5.out.size; clear ho5 hb5)
      | ((with_reducible refine app_ints (A := if cap = k then some ⟨b, off, sp⟩ else some ((⟨b, off, sp⟩ : Addr).add k)) (M := []) rfl _ _ rfl w5 (L.length - k) (cap - k) ?_ HO5.out ?_ HM0.out ?_ HS5.out ?_ ?_); rfl; rfl; exact ⟨rfl, fun j v hj => by cases hj⟩; (have := HLT.out; rw [List.length_append, List.length_singleton, List.length_nil]; omega); intro v6 w6 ho6 hb6; have HO6 := hid ho6; have HB6 := hid (hb6 w2 HB5.out); clear ho6 hb6))
     all_goals (go_ret; exact ⟨by rw [HPUT.out, HDN.out]; exact OI.ret HO6.out, HB6.out⟩)
end Go.Proofs.YtiidljciaccidaaGreatDoor
/- The text Oc. -/
namespace Go.Proofs.YtiidljciaccidaaGreatDoor
open Go.RowKit Go.Lib
set_option linter.unusedVariables false
set_option linter.unusedSimpArgs false
def IR (w : World) (c : Value) (L : List Int) : Prop := ∃ A cap, c = .slice A L.length cap ∧ L.length ≤ cap ∧ Rd w A L.length (intL L)
theorem IR.bel {w w' : World} {c : Value} {L : List Int} (h : IR w c L) (hb : Below w.heap.size w w') : IR w' c L := by
 obtain ⟨A, cap, e, h1, h2⟩ := h
 exact ⟨A, cap, e, h1, h2.below hb⟩
theorem IR.ret {w : World} {c : Value} {L : List Int} (h : IR w c L) : RetI L (.returned c) w := by
 obtain ⟨A, cap, rfl, h1, h2⟩ := h
 exact ⟨A, cap, rfl, h1, h2⟩
theorem OI.ir {w : World} {base : Nat} {c : Value} {L : List Int} (h : OI w base c L) : IR w c L := h.at_
theorem IR.lit0 (w : World) : IR (w.alloc (.cells #[] 3)) (.slice (some ⟨w.heap.size, 0, none⟩) 0 0) [] := (OI.lit0 (base := 0) w (Nat.zero_le _)).ir
theorem rsorted_any (L : List Int) (A : Option Addr) (cap : Nat) (w : World) (hA : Rd w A L.length (intL L)) (hl : L.length ≤ 100000) :
  Calls Tryz.prog 94 #[.slice A L.length cap] w fun e w' => RetI (Co.sortU L) e w' ∧ Below w.heap.size w w' := by
 obtain ⟨R, hR⟩ : ∃ R, R = Co.sortU L := ⟨_, rfl⟩
 have HR := hid hR
 have HA := hid hA
 rw [← hR]
 clear hR hA
 have HB0 := hid ((Below.refl w.heap.size w).alloc (Nat.le_refl _) (.cells #[] 3))
 have HI0 := hid (IR.lit0 w)
 generalize hw1 : w.alloc (.cells #[] 3) = w1 at *
 go_enter Tryz.func94, Tryz.ntmps94
 go_wp2_with fail
 go_loopw [3, 4] (fun ox ix wr => ∃ (k : Nat) (S : List Int), k ≤ L.length ∧ ix = .int .i64 (k : Int) ∧ Hid (S = Co.sortU (L.take k)) ∧ IR wr ox S ∧ Below w.heap.size w wr) (fun _ ix _ => L.length - (RowKit.intOf ix).toNat)
 case atStart => exact ⟨0, [], Nat.zero_le _, rfl, hid rfl, HI0.out, HB0.out⟩
 case round =>
  obtain ⟨k, S, hk, rfl, HS, hir, hb⟩ := hrel
  have HIR := hid hir
  have HB := hid hb
  clear hb hir
  by_cases hlt : k < L.length
  ·obtain ⟨z, hz⟩ : ∃ z, L[k]? = some z := ⟨_, List.getElem?_eq_getElem hlt⟩
   obtain ⟨g, og, rfl, hc⟩ := (HA.out.below HB.out).2 k _ (intL_at hz)
   obtain ⟨B, cb, rfl, hcb, hrb⟩ := HIR.out
   have HPUT := hid (put_any S B cb z _ (by rw [HS.out]; exact Co.incr_sortU _) hcb hrb (by rw [HS.out]; have := Co.sortU_len (L.take k); rw [List.length_take] at this; omega))
   have HS2 : Hid (Co.putU z S = Co.sortU (L.take (k + 1))) := hid (by rw [HS.out, Co.sortU_step hz])
   have hck : k + 1 ≤ L.length := hlt
   clear hz hrb hcb
   go_wp2_with fail
   refine HPUT.out.mono ?_
   rintro e w2 ⟨⟨B2, c2, rfl, hc2, hr2⟩, hb2⟩
   have HB2 := hid (HB.out.trans (hb2.mono HB.out.size))
   have HI2 : Hid (IR w2 (.slice B2 (Co.putU z S).length c2) (Co.putU z S)) := hid ⟨B2, c2, rfl, hc2, hr2⟩
   clear hb2 hc2 hr2
   go_wp2_with fail
   go_roundw
   case rel => exact ⟨k + 1, Co.putU z S, hck, by go_num, HS2, HI2.out, HB2.out⟩
   case measure => simp [RowKit.intOf]; omega
  ·obtain rfl : k = L.length := by omega
   have HSR : Hid (S = R) := hid (by rw [HS.out, HR.out, List.take_length])
   obtain ⟨B, cb, rfl, hcb, hrb⟩ := HIR.out
   have HRT : Hid (RetI R (.returned (.slice B S.length cb)) wr) := hid (by rw [← HSR.out]; exact ⟨B, cb, rfl, hcb, hrb⟩)
   clear hrb hcb
   go_wp2_with fail
   go_ret
   exact ⟨HRT.out, HB.out⟩
theorem runion_any (L M : List Int) (A D : Option Addr) (cap capd : Nat) (w : World) (hA : Rd w A L.length (intL L)) (hD : Rd w D M.length (intL M)) (hl : L.length ≤ 100000) (hm : M.length ≤ 100000) :
  Calls Tryz.prog 52 #[.slice A L.length cap, .slice D M.length capd] w fun e w' => RetI (Co.sortU (L ++ M)) e w' ∧ Below w.heap.size w w' := by
 obtain ⟨R, hR⟩ : ∃ R, R = Co.sortU (L ++ M) := ⟨_, rfl⟩
 have HR := hid hR
 have HSO := hid (rsorted_any L A cap w hA hl)
 have HD := hid hD
 rw [← hR]
 clear hR hA hD
 go_enter Tryz.func52, Tryz.ntmps52
 go_wp2_with fail
 refine HSO.out.mono ?_
 rintro e w1 ⟨⟨B1, c1, rfl, hc1, hr1⟩, hb1⟩
 have HB1 := hid hb1
 have HI1 : Hid (IR w1 (.slice B1 (Co.sortU L).length c1) (Co.sortU L)) := hid ⟨B1, c1, rfl, hc1, hr1⟩
 clear hb1 hc1 hr1
 go_wp2_with fail
 go_loopw [5, 6] (fun ox ix wr => ∃ (k : Nat) (S : List Int), k ≤ M.length ∧ ix = .int .i64 (k : Int) ∧ Hid (S = Co.sortU (L ++ M.take k)) ∧ IR wr ox S ∧ Below w.heap.size w wr) (fun _ ix _ => M.length - (RowKit.intOf ix).toNat)
 case atStart => exact ⟨0, Co.sortU L, Nat.zero_le _, rfl, hid (by rw [List.take_zero, List.append_nil]), HI1.out, HB1.out⟩
 case round =>
  obtain ⟨k, S, hk, rfl, HS, hir, hb⟩ := hrel
  have HIR := hid hir
  have HB := hid hb
  clear hb hir
  by_cases hlt : k < M.length
  ·obtain ⟨z, hz⟩ : ∃ z, M[k]? = some z := ⟨_, List.getElem?_eq_getElem hlt⟩
   obtain ⟨g, og, rfl, hc⟩ := (HD.out.below HB.out).2 k _ (intL_at hz)
   obtain ⟨B, cb, rfl, hcb, hrb⟩ := HIR.out
   have HPUT := hid (put_any S B cb z _ (by rw [HS.out]; exact Co.incr_sortU _) hcb hrb (by rw [HS.out]; have := Co.sortU_len (L ++ M.take k); rw [List.length_append, List.length_take] at this; omega))
   have HS2 : Hid (Co.putU z S = Co.sortU (L ++ M.take (k + 1))) := hid (by rw [HS.out, Co.sortU_next L hz])
   have hck : k + 1 ≤ M.length := hlt
   clear hz hrb hcb
   go_wp2_with fail
   refine HPUT.out.mono ?_
   rintro e w2 ⟨⟨B2, c2, rfl, hc2, hr2⟩, hb2⟩
   have HB2 := hid (HB.out.trans (hb2.mono HB.out.size))
   have HI2 : Hid (IR w2 (.slice B2 (Co.putU z S).length c2) (Co.putU z S)) := hid ⟨B2, c2, rfl, hc2, hr2⟩
   clear hb2 hc2 hr2
   go_wp2_with fail
   go_roundw
   case rel => exact ⟨k + 1, Co.putU z S, hck, by go_num, HS2, HI2.out, HB2.out⟩
   case measure => simp [RowKit.intOf]; omega
  ·obtain rfl : k = M.length := by omega
   have HSR : Hid (S = R) := hid (by rw [HS.out, HR.out, List.take_length])
   obtain ⟨B, cb, rfl, hcb, hrb⟩ := HIR.out
   have HRT : Hid (RetI R (.returned (.slice B S.length cb)) wr) := hid (by rw [← HSR.out]; exact ⟨B, cb, rfl, hcb, hrb⟩)
   clear hrb hcb
   go_wp2_with fail
   go_ret
   exact ⟨HRT.out, HB.out⟩
def notIn (M : List Int) (x : Int) : Bool := !M.contains x
theorem filter_step {p : Int → Bool} {L : List Int} {k : Nat} {z : Int} (hz : L[k]? = some z) : (L.take (k + 1)).filter p = (L.take k).filter p ++ (if p z then [z] else []) := by
 rw [take_more hz, List.filter_append]
 cases hp : p z <;> simp [hp]
theorem rminus_any (L M : List Int) (A D : Option Addr) (cap capd : Nat) (w : World) (hA : Rd w A L.length (intL L)) (hD : Rd w D M.length (intL M)) (hl : L.length ≤ 100000) (hm : M.length ≤ 100000) :
  Calls Tryz.prog 54 #[.slice A L.length cap, .slice D M.length capd] w fun e w' => RetI ((Co.sortU L).filter (notIn M)) e w' ∧ Below w.heap.size w w' := by
 obtain ⟨S, hS⟩ : ∃ S, S = Co.sortU L := ⟨_, rfl⟩
 have HSO := hid (rsorted_any L A cap w hA hl)
 have hSl : S.length ≤ 100000 := by rw [hS]; have := Co.sortU_len L; omega
 have HHAS := hid (fun (x : Int) (W : World) (hr : Rd W D M.length (intL M)) => has_any M D capd x W hr (by omega))
 have HD := hid hD
 rw [← hS] at HSO ⊢
 clear hS hA hD
 go_enter Tryz.func54, Tryz.ntmps54
 go_wp2_with fail
 refine HSO.out.mono ?_
 rintro e w1 ⟨⟨B1, c1, rfl, hc1, hr1⟩, hb1⟩
 have HB1 := hid hb1
 have HSR := hid hr1
 have HB2 := hid ((Below.refl w1.heap.size w1).alloc (Nat.le_refl _) (.cells #[] 3))
 have HO2 := hid (OI.lit0 (base := w1.heap.size) w1 (Nat.le_refl _))
 clear hb1 hc1 hr1
 generalize hw2 : w1.alloc (.cells #[] 3) = w2 at *
 go_wp2_with fail
 go_loopw [6, 7] (fun ox ix wr => ∃ (k : Nat) (O : List Int), k ≤ S.length ∧ ix = .int .i64 (k : Int) ∧ Hid (O = (S.take k).filter (notIn M)) ∧ OI wr w1.heap.size ox O ∧ Below w1.heap.size w1 wr) (fun _ ix _ => S.length - (RowKit.intOf ix).toNat)
 case atStart => exact ⟨0, [], Nat.zero_le _, rfl, hid rfl, HO2.out, HB2.out⟩
 case round =>
  obtain ⟨k, O, hk, rfl, HOE, ho, hb⟩ := hrel
  have HO := hid ho
  have HB := hid hb
  clear hb ho
  obtain ⟨w3, hw3⟩ : ∃ x, x = wr := ⟨_, rfl⟩
  subst hw3
  obtain ⟨v0, hv0⟩ : ∃ x, x = u6 := ⟨_, rfl⟩
  subst hv0
  by_cases hlt : k < S.length
  ·obtain ⟨z, hz⟩ : ∃ z, S[k]? = some z := ⟨_, List.getElem?_eq_getElem hlt⟩
   obtain ⟨g, og, rfl, hc⟩ := (HSR.out.below HB.out).2 k _ (intL_at hz)
   have HX := hid (HHAS.out z w3 (HD.out.below (HB1.out.trans (HB.out.mono HB1.out.size))))
   have HST := hid (filter_step (p := notIn M) hz)
   have hck : k + 1 ≤ S.length := hlt
   clear hz
   cases hm2 : M.contains z with
   | true =>
    have HO2 : Hid (O = (S.take (k + 1)).filter (notIn M)) := hid (by rw [HST.out, ← HOE.out, if_neg (by unfold notIn; rw [hm2]; decide), List.append_nil])
    go_wp2_with fail
    refine HX.out.mono ?_
    rintro e w4 ⟨rfl, rfl⟩
    rw [hm2]
    clear hm2
    go_wp2_with fail
    go_roundw
    case rel => exact ⟨k + 1, O, hck, by go_num, HO2, HO.out, HB.out⟩
    case measure => simp [RowKit.intOf]; omega
   | false =>
    have HO2 : Hid (O ++ [z] = (S.take (k + 1)).filter (notIn M)) := hid (by rw [HST.out, ← HOE.out, if_pos (by unfold notIn; rw [hm2]; rfl)])
    have HSZ := hid HB.out.size
    have HOL : Hid (O.length ≤ 100000000) := hid (by rw [HOE.out]; have := List.length_filter_le (notIn M) (S.take k); rw [List.length_take] at this; omega)
    go_wp2_with fail
    refine HX.out.mono ?_
    rintro e w4 ⟨rfl, rfl⟩
    rw [hm2]
    clear hm2
    go_wp2_with ((with_reducible refine app_one rfl _ _ rfl w4 z ?_ HO.out ?_ HSZ.out HOL.out ?_); rfl; rfl; intro v5 w5 ho5 hb5; have HO5 := hid ho5; have HB5 := hid (hb5 w1 HB.out); clear ho5 hb5)
    go_roundw
    case rel => exact ⟨k + 1, O ++ [z], hck, by go_num, HO2, HO5.out, HB5.out⟩
    case measure => simp [RowKit.intOf]; omega
  ·obtain rfl : k = S.length := by omega
   have HRT : Hid (RetI (S.filter (notIn M)) (.returned v0) w3) := hid (by have := HO.out.ir.ret; rw [HOE.out, List.take_length] at this; exact this)
   go_wp2_with fail
   go_ret
   exact ⟨HRT.out, HB1.out.trans (HB.out.mono HB1.out.size)⟩
end Go.Proofs.YtiidljciaccidaaGreatDoor
/- The text Od. -/
namespace Go.Proofs.YtiidljciaccidaaGreatDoor
open Go.RowKit Go.Lib
set_option linter.unusedVariables false
set_option linter.unusedSimpArgs false
theorem OI.one_at {w : World} {base : Nat} {v : Value} {x : Int} (h : OI w base v [x]) : ∃ g cap cur, v = .slice (some ⟨g, 0, none⟩) 1 cap ∧ base ≤ g ∧ Blk w g 3 cur ∧ cur[0]? = some (.int .i64 x) ∧ 1 ≤ cap := by
 obtain ⟨h1, h2⟩ := h
 rcases h2 with ⟨_, h0⟩ | ⟨g, cap, cur, rfl, hg, hh, hn, hcap, hsz, ht⟩
 ·cases h0
 ·refine ⟨g, cap, cur, rfl, hg, hh, ?_, hn⟩
  have h3 : (cur.toList.take ([x].length * 1))[0]? = some (.int .i64 x) := by rw [ht]; rfl
  rw [List.getElem?_take_of_lt (by simp), Array.getElem?_toList] at h3
  exact h3
theorem with_nil (x : Int) (w : World) :
  Calls Tryz.prog 96 #[.slice none 0 0, .int .i64 x] w fun e w' => RetI [x] e w' ∧ Below w.heap.size w w' := by
 go_enter Tryz.func96, Tryz.ntmps96
 go_wp2_with fail
 go_loopw [5] (fun ix wr => ix = .int .i64 0 ∧ w = wr) (fun ix _ => 0)
 case atStart => exact ⟨rfl, rfl⟩
 case round =>
  obtain ⟨rfl, hw⟩ := hrel
  subst hw
  go_wp2_with ((with_reducible refine app_one (base := w.heap.size) (L := []) rfl _ _ rfl w x ?_ (World.ownsRow_nil ..) ?_ (Nat.le_refl _) (Nat.zero_le _) ?_); rfl; rfl; intro v5 w5 ho5 hb5; obtain ⟨g, cap, cur, hv5, hg5, hk5, hc5, hcap5⟩ := OI.one_at ho5; subst hv5; have HG5 := hid hg5; have HK5 := hid hk5; have HC5 := hid hc5; have h50 : w5.cell? ⟨g, 0, none⟩ = some (.int .i64 x) := (hk5.cell 0).trans hc5; have HCAP := hid hcap5; have HB5 := hid (hb5 w (Below.refl _ _)); clear ho5 hb5 hg5 hk5 hc5 hcap5)
  go_loopw [6] (fun ix wr => ix = .int .i64 0 ∧ w5 = wr) (fun ix _ => 0)
  case atStart => exact ⟨rfl, rfl⟩
  case round =>
   obtain ⟨rfl, hw⟩ := hrel
   subst hw
   have hfz := HK5.out.frozen 0
   go_wp2_with fail
   go_ret
   refine ⟨⟨some ⟨g, 0, none⟩, cap, rfl, HCAP.out, rfl, fun j v hj => ?_⟩, ?_⟩
   ·cases j with
    | zero =>
     injection hj with hj
     subst hj
     have h6 := (HK5.out.set_ 0 (.int .i64 x)).cell 0
     refine ⟨g, 0, rfl, h6.trans ?_⟩
     have hlt : 0 < cur.size := (Array.getElem?_eq_some_iff.1 HC5.out).1
     simp [hlt]
    | succ j => simp [intL] at hj
   ·exact HB5.out.setCell (p := ⟨g, 0, none⟩) HG5.out _
theorem rmissing_one (ok : Nat → Prop) (l : List Co.Ev) (A D : Option Addr) (cap capd : Nat) (a : Int) (w : World) (h : EvRow ok w A l) (hl : l.length ≤ 10000) (hD : Rd w D 1 (intL [a])) :
  Calls Tryz.prog 55 #[.slice A l.length cap, .slice D 1 capd] w fun e w' => RetI (if Co.isKnown l a then [] else [a]) e w' ∧ Below w.heap.size w w' := by
 have HPL := hid (replace_any ok l A cap a w h (by omega))
 have HIX := hid (ix_find (hasId a) l 0)
 have HWN := hid (with_nil a w)
 obtain ⟨g, og, rfl, hc⟩ := hD.2 0 _ (intL_at (l := [a]) (k := 0) rfl)
 rw [Nat.add_zero] at hc
 clear h hD
 generalize ixF (hasId a) 0 l = p at *
 cases hk : Co.isKnown l a with
 | true =>
  obtain ⟨i, rfl⟩ : ∃ i : Nat, p = (i : Int) := by
   rcases HIX.out with ⟨_, h2⟩ | ⟨i, _, h2, _⟩
   ·unfold Co.isKnown at hk
    have : Co.getE l a = none := h2
    rw [this] at hk
    cases hk
   ·exact ⟨i, by rw [h2, Nat.zero_add]⟩
  clear HIX HWN hk
  rw [if_pos rfl]
  go_enter Tryz.func55, Tryz.ntmps55
  go_wp2_with fail
  go_loopw [5, 6] (fun ox ix wr => ∃ k : Nat, k ≤ 1 ∧ ox = .slice none 0 0 ∧ ix = .int .i64 (k : Int) ∧ w = wr) (fun _ ix _ => 1 - (RowKit.intOf ix).toNat)
  case atStart => exact ⟨0, Nat.zero_le _, rfl, rfl, rfl⟩
  case round =>
   obtain ⟨k, hk, rfl, rfl, hw⟩ := hrel
   subst hw
   cases k with
   | zero =>
    go_wp2_with fail
    refine HPL.out.mono ?_
    rintro e w2 ⟨rfl, rfl⟩
    go_wp2_with fail
    go_roundw
    case rel => exact ⟨1, Nat.le_refl _, rfl, rfl, trivial⟩
    case measure => simp [RowKit.intOf]
   | succ k =>
    obtain rfl : k = 0 := by omega
    go_wp2_with fail
    go_ret
    exact ⟨⟨none, 0, rfl, Nat.le_refl _, rfl, fun j v hj => by cases hj⟩, Below.refl _ _⟩
 | false =>
  obtain rfl : p = -1 := by
   rcases HIX.out with ⟨h1, _⟩ | ⟨i, x, _, _, h2⟩
   ·exact h1
   ·unfold Co.isKnown at hk
    have : Co.getE l a = some x := h2
    rw [this] at hk
    cases hk
  clear HIX hk
  rw [if_neg (by decide)]
  go_enter Tryz.func55, Tryz.ntmps55
  go_wp2_with fail
  go_loopw [5, 6] (fun ox ix wr => (ox = .slice none 0 0 ∧ ix = .int .i64 0 ∧ w = wr) ∨ (ix = .int .i64 1 ∧ IR wr ox [a] ∧ Below w.heap.size w wr)) (fun _ ix _ => 1 - (RowKit.intOf ix).toNat)
  case atStart => exact .inl ⟨rfl, rfl, rfl⟩
  case round =>
   rcases hrel with ⟨rfl, rfl, hw⟩ | ⟨rfl, hir, hb⟩
   ·subst hw
    go_wp2_with fail
    refine HPL.out.mono ?_
    rintro e w2 ⟨rfl, rfl⟩
    go_wp2_with fail
    refine HWN.out.mono ?_
    rintro e w3 ⟨⟨B, c3, rfl, hc3, hr3⟩, hb3⟩
    have HB3 := hid hb3
    have HI3 : Hid (IR w3 (.slice B [a].length c3) [a]) := hid ⟨B, c3, rfl, hc3, hr3⟩
    clear hc3 hr3 hb3
    go_wp2_with fail
    go_roundw
    case rel => exact .inr ⟨rfl, HI3.out, HB3.out⟩
    case measure => simp [RowKit.intOf]
   ·have HIR := hid hir.ret
    have HB := hid hb
    clear hir hb
    go_wp2_with fail
    go_ret
    exact ⟨HIR.out, HB.out⟩
theorem rknown_one (ok : Nat → Prop) (l : List Co.Ev) (A D : Option Addr) (cap capd : Nat) (a : Int) (w : World) (h : EvRow ok w A l) (hl : l.length ≤ 10000) (hD : Rd w D 1 (intL [a])) :
  Calls Tryz.prog 29 #[.slice A l.length cap, .slice D 1 capd] w fun e w' => RetI (Co.knownU l [a]) e w' ∧ Below w.heap.size w w' := by
 have HMI := hid (rmissing_one ok l A D cap capd a w h hl hD)
 obtain ⟨M, hM⟩ : ∃ M, M = if Co.isKnown l a then [] else [a] := ⟨_, rfl⟩
 have hMl : M.length ≤ 1 := by rw [hM]; split <;> simp
 have HR : Hid ((Co.sortU [a]).filter (notIn M) = Co.knownU l [a]) := hid (by
  rw [Co.known_one, hM]
  cases Co.isKnown l a <;> simp [Co.sortU, Co.putU, notIn])
 have HD := hid hD
 rw [← hM] at HMI
 clear hM h hD
 go_enter Tryz.func29, Tryz.ntmps29
 go_wp2_with fail
 refine HMI.out.mono ?_
 rintro e w2 ⟨⟨B, c2, rfl, hc2, hr2⟩, hb2⟩
 have HB2 := hid hb2
 have HMN := hid (rminus_any [a] M D B capd c2 w2 (HD.out.below hb2) hr2 (by simp) (by omega))
 clear hb2 hr2 hc2
 go_wp2_with fail
 refine HMN.out.mono ?_
 rintro e w3 ⟨⟨C, c3, rfl, hc3, hr3⟩, hb3⟩
 have HB3 := hid (HB2.out.trans (hb3.mono HB2.out.size))
 have HRT : Hid (RetI (Co.knownU l [a]) (.returned (.slice C ((Co.sortU [a]).filter (notIn M)).length c3)) w3) := hid (by rw [← HR.out]; exact ⟨C, c3, rfl, hc3, hr3⟩)
 clear hb3 hr3 hc3
 go_wp2_with fail
 go_ret
 exact ⟨HRT.out, HB3.out⟩
end Go.Proofs.YtiidljciaccidaaGreatDoor
/- The text Oe. -/
namespace Go.Proofs.YtiidljciaccidaaGreatDoor
open Go.RowKit Go.Lib
set_option linter.unusedVariables false
set_option linter.unusedSimpArgs false
theorem rnext_any (ok : Nat → Prop) (l : List Co.Ev) (I : List Int) (A D : Option Addr) (cap capd : Nat) (w : World) (h : EvRow ok w A l) (hl : l.length ≤ 10000) (hW : ∀ e ∈ l, e.auth.length ≤ 1000000) (hD : Rd w D I.length (intL I)) (hi : I.length ≤ 1000000) :
  Calls Tryz.prog 28 #[.slice A l.length cap, .slice D I.length capd, .bool true] w fun e w' => RetI (Co.nextU l (Co.authOf l) I) e w' ∧ Below w.heap.size w w' := by
 have HROW := hid h
 have HW := hid hW
 have HD := hid hD
 have HGET := hid (fun (id : Int) (W : World) (hr : EvRow ok W A l) => rget_any ok l A cap id W hr (by omega))
 obtain ⟨R, hR⟩ : ∃ R, R = Co.nextU l (Co.authOf l) I := ⟨_, rfl⟩
 have HR := hid hR
 rw [← hR]
 clear h hW hD hR
 have HB0 := hid ((Below.refl w.heap.size w).alloc (Nat.le_refl _) (.cells #[] 3))
 have HI0 := hid (IR.lit0 w)
 generalize hw1 : w.alloc (.cells #[] 3) = w1 at *
 go_enter Tryz.func28, Tryz.ntmps28
 go_wp2_with fail
 go_loopw [7, 8] (fun ox ix wr => ∃ (k : Nat) (S : List Int), k ≤ I.length ∧ ix = .int .i64 (k : Int) ∧ Hid (S = Co.nextK l (I.take k) []) ∧ IR wr ox S ∧ Below w.heap.size w wr) (fun _ ix _ => I.length - (RowKit.intOf ix).toNat)
 case atStart => exact ⟨0, [], Nat.zero_le _, rfl, hid rfl, HI0.out, HB0.out⟩
 case round =>
  obtain ⟨k, S, hk, rfl, HS, hir, hb⟩ := hrel
  have HIR := hid hir
  have HB := hid hb
  clear hb hir
  obtain ⟨w2, hw2⟩ : ∃ x, x = wr := ⟨_, rfl⟩
  subst hw2
  obtain ⟨v0, hv0⟩ : ∃ x, x = u7 := ⟨_, rfl⟩
  subst hv0
  by_cases hlt : k < I.length
  ·obtain ⟨x, hx⟩ : ∃ x, I[k]? = some x := ⟨_, List.getElem?_eq_getElem hlt⟩
   obtain ⟨g, og, rfl, hc⟩ := (HD.out.below HB.out).2 k _ (intL_at hx)
   have HX := hid hx
   have hck : k + 1 ≤ I.length := hlt
   clear hx
   go_wp2_with fail
   refine (HGET.out x w2 (HROW.out.bel HB.out)).mono ?_
   rintro e w3 ⟨⟨V, rfl, hv⟩, hb3⟩
   have hvl := hv.len
   rw [Array.length_toList] at hvl
   have HSX : Hid ((Tryz.prog.info? 41).map (·.size) = some V.size) := hid (by rw [size_ev, hvl])
   have HSZ : Hid (zEv.size = V.size) := hid hvl.symm
   have HOV : Hid (V.all (·.oneCell') = true) := hid (by have := EvS.all hv; rwa [Array.toArray_toList] at this)
   obtain ⟨cp, ca, _, _, _, _, hX, hL⟩ := hv
   obtain ⟨Ap, capp, rfl, hrp, -⟩ := hL.prev
   obtain ⟨Aa, capa, rfl, hra, -⟩ := hL.auth
   have HC8 : Hid (V[8]? = some (.slice Ap ((Co.getE l x).getD default).prev.length capp)) := hid (by rw [← Array.getElem?_toList, hX]; rfl)
   have HC9 : Hid (V[9]? = some (.slice Aa ((Co.getE l x).getD default).auth.length capa)) := hid (by rw [← Array.getElem?_toList, hX]; rfl)
   have HC0 : Hid (V[0]? = some (.int .i64 ((Co.getE l x).getD default).id)) := hid (by rw [← Array.getElem?_toList, hX]; rfl)
   have hra2 : Rd w3 Aa ((Co.getE l x).getD default).auth.length (intL ((Co.getE l x).getD default).auth) := by have := hra; rw [Nat.mul_one] at this; exact this
   have HNEW := hid (Blk.new w3 41 zEv)
   have hb4 := below_setRow (g := w3.heap.size) ((Below.refl w3.heap.size w3).alloc (Nat.le_refl _) (.cells zEv 41)) (Nat.le_refl _) V
   have HK4 : Hid (Blk ((w3.alloc (.cells zEv 41)).setRow w3.heap.size V) w3.heap.size 41 V) := hid (setRow_heap _ _ _ _ _ _ HNEW.out)
   have HB34 := hid (hb3.trans (hb4.mono hb3.size))
   have HB4 := hid (HB.out.trans (HB34.out.mono HB.out.size))
   have HN43 := hid HK4.out.lt
   have HRA := hid (hra2.below hb4)
   clear hX hL hra hra2 hrp
   have hc8 : ((w3.alloc (.cells zEv 41)).setRow w3.heap.size V).cell? ⟨w3.heap.size, 8, none⟩ = some (.slice Ap ((Co.getE l x).getD default).prev.length capp) := (Blk.cell HK4.out 8).trans HC8.out
   have hc9 : ((w3.alloc (.cells zEv 41)).setRow w3.heap.size V).cell? ⟨w3.heap.size, 9, none⟩ = some (.slice Aa ((Co.getE l x).getD default).auth.length capa) := (Blk.cell HK4.out 9).trans HC9.out
   have hc0 : ((w3.alloc (.cells zEv 41)).setRow w3.heap.size V).cell? ⟨w3.heap.size, 0, none⟩ = some (.int .i64 ((Co.getE l x).getD default).id) := (Blk.cell HK4.out 0).trans HC0.out
   clear HC8 HC9 HC0
   clear hb3 hb4 hvl
   generalize hw4 : (w3.alloc (.cells zEv 41)).setRow w3.heap.size V = w4 at *
   have HAU := hid (auth_is l x)
   have hall : ((Co.getE l x).getD default).auth.length ≤ 1000000 := auth_all (P := fun L => L.length ≤ 1000000) (by decide) HW.out x
   generalize ((Co.getE l x).getD default).auth = AU at *
   generalize ((Co.getE l x).getD default).prev = PV at *
   generalize ((Co.getE l x).getD default).id = xid at *
   generalize (Co.getE l x).isSome = sb at *
   have HI4 := hid (HIR.out.bel HB34.out)
   go_wp2_with ((with_reducible refine store_rowe rfl 41 _ _ rfl w3.heap.size V ?_ ?_ 41 zEv HNEW.out HSX.out HSZ.out HOV.out ?_); rfl; rfl; rw [hw4])
   go_loopw [7, 12] (fun ox jx wr => ∃ (j : Nat) (T : List Int), j ≤ AU.length ∧ jx = .int .i64 (j : Int) ∧ Hid (T = Co.nextK l (I.take k) (AU.take j)) ∧ IR wr ox T ∧ Below w4.heap.size w4 wr) (fun _ jx _ => AU.length - (RowKit.intOf jx).toNat)
   case atStart => exact ⟨0, S, Nat.zero_le _, rfl, HS, HI4.out, Below.refl _ _⟩
   case round =>
    obtain ⟨j, T, hj, rfl, HT, hir, hb⟩ := hrel
    have HIT := hid hir
    have HB5 := hid hb
    clear hb hir
    obtain ⟨w5, hw5⟩ : ∃ x, x = wr := ⟨_, rfl⟩
    subst hw5
    have HBW := hid (HB4.out.trans (HB5.out.mono HB4.out.size))
    by_cases hlj : j < AU.length
    ·obtain ⟨z, hz⟩ : ∃ z, AU[j]? = some z := ⟨_, List.getElem?_eq_getElem hlj⟩
     obtain ⟨ga, oa, rfl, hcz⟩ := (HRA.out.below HB5.out).2 j _ (intL_at hz)
     have HZ := hid hz
     have hcj : j + 1 ≤ AU.length := hlj
     clear hz
     obtain ⟨B, cb, rfl, hcb, hrb⟩ := HIT.out
     have HCB := hid hcb
     have HRB := hid hrb
     have HTL : Hid (T.length ≤ 100000) := hid (by rw [HT.out]; have := Co.nextK_len l (I.take k) (AU.take j); omega)
     clear hcb hrb
     go_wp2_with fail
     refine (HGET.out z w5 (HROW.out.bel HBW.out)).mono ?_
     rintro e w6 ⟨⟨V, rfl, hv⟩, hb6⟩
     have hvl := hv.len
     rw [Array.length_toList] at hvl
     have HSX : Hid ((Tryz.prog.info? 41).map (·.size) = some V.size) := hid (by rw [size_ev, hvl])
     have HSZ : Hid (zEv.size = V.size) := hid hvl.symm
     have HOV : Hid (V.all (·.oneCell') = true) := hid (by have := EvS.all hv; rwa [Array.toArray_toList] at this)
     have HNEW := hid (Blk.new w6 41 zEv)
     have hb7 := below_setRow (g := w6.heap.size) ((Below.refl w6.heap.size w6).alloc (Nat.le_refl _) (.cells zEv 41)) (Nat.le_refl _) V
     have HK7 : Hid (Blk ((w6.alloc (.cells zEv 41)).setRow w6.heap.size V) w6.heap.size 41 V) := hid (setRow_heap _ _ _ _ _ _ HNEW.out)
     have HB67 := hid (hb6.trans (hb7.mono hb6.size))
     have HB7 := hid (HB5.out.trans (HB67.out.mono HB5.out.size))
     have HN76 := hid HK7.out.lt
     clear hv
     clear hb6 hb7 hvl
     generalize hw7 : (w6.alloc (.cells zEv 41)).setRow w6.heap.size V = w7 at *
     have HRB7 := hid (HRB.out.below HB67.out)
     have hcz7 : w7.cell? ⟨ga, oa + j, none⟩ = some (.int .i64 z) := (Below.cell HB67.out (p := ⟨ga, oa + j, none⟩) (block_lt hcz)).trans hcz
     cases hkz : (Co.getE l z).isSome with
     | true =>
      have HT2 : Hid (Co.putU z T = Co.nextK l (I.take k) (AU.take (j + 1))) := hid (by rw [HT.out, Co.nextK_yes HZ.out hkz])
      have HPUT := hid (put_any T B cb z w7 (by rw [HT.out]; exact Co.nextK_incr ..) HCB.out HRB7.out (by have := HTL.out; omega))
      clear hkz
      go_wp2_with ((with_reducible refine store_rowe rfl 41 _ _ rfl w6.heap.size V ?_ ?_ 41 zEv HNEW.out HSX.out HSZ.out HOV.out ?_); rfl; rfl; rw [hw7])
      refine HPUT.out.mono ?_
      rintro e w8 ⟨⟨B2, c2, rfl, hc2, hr2⟩, hb8⟩
      have HB8 := hid (HB7.out.trans (hb8.mono HB7.out.size))
      have HI8 : Hid (IR w8 (.slice B2 (Co.putU z T).length c2) (Co.putU z T)) := hid ⟨B2, c2, rfl, hc2, hr2⟩
      clear hb8 hc2 hr2
      go_wp2_with fail
      go_roundw
      case rel => exact ⟨j + 1, Co.putU z T, hcj, by go_num, HT2, HI8.out, HB8.out⟩
      case measure => simp [RowKit.intOf]; omega
     | false =>
      have HT2 : Hid (T = Co.nextK l (I.take k) (AU.take (j + 1))) := hid (by rw [HT.out, Co.nextK_no HZ.out hkz])
      have HI7 : Hid (IR w7 (.slice B T.length cb) T) := hid ⟨B, cb, rfl, HCB.out, HRB7.out⟩
      clear hkz
      go_wp2_with ((with_reducible refine store_rowe rfl 41 _ _ rfl w6.heap.size V ?_ ?_ 41 zEv HNEW.out HSX.out HSZ.out HOV.out ?_); rfl; rfl; rw [hw7])
      go_roundw
      case rel => exact ⟨j + 1, T, hcj, by go_num, HT2, HI7.out, HB7.out⟩
      case measure => simp [RowKit.intOf]; omega
    ·obtain rfl : j = AU.length := by omega
     have HS2 : Hid (T = Co.nextK l (I.take (k + 1)) []) := hid (by rw [HT.out, List.take_length]; exact Co.nextK_over HX.out HAU.out)
     go_wp2_with fail
     go_roundw
     case rel => exact ⟨k + 1, T, hck, by go_num, HS2, HIT.out, HBW.out⟩
     case measure => simp [RowKit.intOf]; omega
  ·obtain rfl : k = I.length := by omega
   have HRT : Hid (RetI R (.returned v0) w2) := hid (by have := HIR.out.ret; rw [HS.out, List.take_length, Co.nextK_end, ← HR.out] at this; exact this)
   go_wp2_with fail
   go_ret
   exact ⟨HRT.out, HB.out⟩
end Go.Proofs.YtiidljciaccidaaGreatDoor
