/- The texts Ar4, Anl, Ax3, Ax4, Al2 of this proof, one behind the other. -/
import Derived.Test.YteadlcncnhbmjaaGreatDoorMas
import Derived.Test.YteadlcncnhbmjaaGreatDoorMap
import Derived.Test.YteadlcncnhbmjaaGreatDoorMaq
set_option linter.unusedSimpArgs false
set_option maxHeartbeats 16000000
set_option maxRecDepth 100000
/- The text Ar4. -/
namespace Go.Proofs.YteadlcncnhbmjaaGreatDoor
open Go.RowKit Go.Lib
set_option linter.unusedVariables false
def tl0 : List UInt8 := [114, 111, 111, 109, 32, 34, 33, 114, 58, 97, 34]
def tl1 : List UInt8 := [114, 111, 119, 32, 48, 32, 53, 32, 52]
theorem text0_lines : Ar.lines Ar.text0 = [tl0, tl1, []] := by decide
abbrev nilS : Value := .slice none 0 0
def roomZ : Array Value := #[.string ByteArray.empty, nilS, nilS, nilS, nilS, nilS, .int .i64 0, nilS, nilS]
def room1 : Array Value := #[.string (bstr [33, 114, 58, 97]), nilS, nilS, nilS, nilS, nilS, .int .i64 0, nilS, nilS]
theorem hd_ok : hdOk tl0 0 = true := by decide
theorem hd_x : (hdX tl0).1 = [33, 114, 58, 97] := by decide
theorem hd_z : (hdZ tl0 0).1 = 0 := by decide
theorem rw_ok : rwOk tl1 = true := by decide
theorem rw_x : rwX tl1 = (0, 5, 4, false) := by decide
theorem rw_cut : (Lib.cut tl1 [32]).1 = [114, 111, 119] := by decide
theorem Ch.low {w w' : World} {g : Nat} {row : Option Nat} (h : Ch w w' g row) (hg : g ≤ w.heap.size) (hr : ∀ k, row = some k → g ≤ k) : Below g w w' := ⟨h.os, h.tape, h.output, h.size, fun k hk => h.block k (by omega) (by omega) (fun e => by have := hr k e.symm; omega)⟩
theorem results_row_tmp2 {P : Program} {fn : Func} {p u v : Tmp} {ty : TypeId} (h : fn.results = #[.cell p ty, .tmp u, .tmp v]) (tmps : Array Value) (w : World) (g : Nat) (t : TypeId) (cs : Array Value) (d : TypeDesc)
  (hp : tmps.getD p undef = .pointer (some ⟨g, 0, none⟩)) (hg : Blk w g t cs)
  (hu : P.underlying ty = some d) (hd : (match d with | .struct _ | .array _ _ => true | _ => false) = true) (hi : (P.info? ty).map (·.size) = some cs.size) :
  (results fn tmps).run P w = .ok (.tuple #[.agg cs, tmps.getD u undef, tmps.getD v undef]) w := by
 have hl := run_loadVar_row w g t ty cs (0, 0) d hg hu hd hi
 have e : (results fn tmps).run P w = ((asAddr (tmps.getD p undef)).run P w).andThen fun a w₁ => ((loadVar ty a).run P w₁).andThen fun x w₂ => .ok (.tuple #[x, tmps.getD u undef, tmps.getD v undef]) w₂ := by
  simp only [results, h]
  simp [Sem.run_bind, Result.andThen]
 rw [e]
 simp only [hp, asAddr, Sem.run_pure, Result.andThen_ok]
 rw [hl]
 rfl
theorem read_text0 (w : World) (hR : Ready w) :
  Calls Tryz.prog 28 #[.string (bstr Ar.text0)] w fun e w' => ∃ vR', e = .returned (.tuple #[.agg #[.string (bstr [33, 114, 58, 97]), nilS, vR', nilS, nilS, nilS, .int .i64 0, nilS, nilS], .int .i64 0, .int .i64 0]) ∧ w'.ownsRow w.heap.size 114 4 vR' 1 (rowC (0, 5, 4, false)) ∧ Below w.heap.size w w' := by
 have h3 : 3 ≤ w.heap.size := by
  obtain ⟨t, p, h⟩ := hR.2.2
  exact block_lt h
 have HRY := hid hR
 have hsz : (bstr Ar.text0).size = 22 := rfl
 have hln := fun W hW => lines_any (bstr Ar.text0) W (by rw [hsz]; decide) hW
 rw [show (bstr Ar.text0).data.toList = Ar.text0 from rfl, text0_lines] at hln
 have HLN := hid hln
 clear hR hln
 generalize bstr Ar.text0 = S at *
 have HR1 := hid (HRY.out.below ((Below.refl _ _).alloc (Nat.le_refl _) (.cells #[.string ⟨#[]⟩, nilS, nilS, nilS, nilS, nilS, .int .i64 0, nilS, nilS] 55)))
 have hs1 : (w.alloc (.cells #[.string ⟨#[]⟩, nilS, nilS, nilS, nilS, nilS, .int .i64 0, nilS, nilS] 55)).heap.size = w.heap.size + 1 := World.size_alloc _ _
 have HB1 := hid ((Below.refl w.heap.size w).alloc (Nat.le_refl _) (.cells #[.string ⟨#[]⟩, nilS, nilS, nilS, nilS, nilS, .int .i64 0, nilS, nilS] 55))
 have HKT := hid (Blk.new w 55 #[.string ⟨#[]⟩, nilS, nilS, nilS, nilS, nilS, .int .i64 0, nilS, nilS])
 have HQ1 := hid (HLN.out _ HR1.out)
 rw [hs1] at HQ1
 generalize hw1 : w.alloc (.cells #[.string ⟨#[]⟩, nilS, nilS, nilS, nilS, nilS, .int .i64 0, nilS, nilS] 55) = w1 at *
 have HB2 := hid (HB1.out.alloc HB1.out.size (.cells (strL [tl0, tl1, []]).toArray 9))
 have HR2 := hid (HR1.out.below ((Below.refl _ _).alloc (Nat.le_refl _) (.cells (strL [tl0, tl1, []]).toArray 9)))
 have hs2 : (w1.alloc (.cells (strL [tl0, tl1, []]).toArray 9)).heap.size = w.heap.size + 2 := by rw [World.size_alloc, hs1]
 have HKT2 := hid (HKT.out.alloc (.cells (strL [tl0, tl1, []]).toArray 9))
 have HKL := hid (Rd.litS w1 [tl0, tl1, []])
 rw [hs1] at HKL
 generalize hw2 : w1.alloc (.cells (strL [tl0, tl1, []]).toArray 9) = w2 at *
 have HB3 := hid (HB2.out.alloc HB2.out.size (.cells #[.string ⟨#[]⟩, nilS, nilS, nilS, nilS, nilS, .int .i64 0, nilS, nilS] 55))
 have HR3 := hid (HR2.out.below ((Below.refl _ _).alloc (Nat.le_refl _) (.cells #[.string ⟨#[]⟩, nilS, nilS, nilS, nilS, nilS, .int .i64 0, nilS, nilS] 55)))
 have hs3 : (w2.alloc (.cells #[.string ⟨#[]⟩, nilS, nilS, nilS, nilS, nilS, .int .i64 0, nilS, nilS] 55)).heap.size = w.heap.size + 3 := by rw [World.size_alloc, hs2]
 have HKT3 := hid (HKT2.out.alloc (.cells #[.string ⟨#[]⟩, nilS, nilS, nilS, nilS, nilS, .int .i64 0, nilS, nilS] 55))
 have HKL3 := hid (HKL.out.below ((Below.refl _ _).alloc (Nat.le_refl _) (.cells #[.string ⟨#[]⟩, nilS, nilS, nilS, nilS, nilS, .int .i64 0, nilS, nilS] 55)))
 have HKG3 := hid (Blk.new w2 55 #[.string ⟨#[]⟩, nilS, nilS, nilS, nilS, nilS, .int .i64 0, nilS, nilS])
 rw [hs2] at HKG3
 have hsl : ∀ W : World, (Instr.slice 30 (.slice (some ⟨w.heap.size + 1, 0, none⟩) 3 3) none (some (.int .i64 2)) (some (.int .i64 2))).run Tryz.prog W = .ok (.slice (some ⟨w.heap.size + 1, 0, none⟩) 2 2) W := fun W => slice_left W (w.heap.size + 1) 0 3 3 2 (by omega) (by omega)
 have HST : Hid (∀ wr, Below (w.heap.size + 2) (w2.alloc (.cells #[.string ⟨#[]⟩, nilS, nilS, nilS, nilS, nilS, .int .i64 0, nilS, nilS] 55)) wr → Below w.heap.size w wr ∧ Ready wr ∧ Blk wr w.heap.size 55 #[.string ⟨#[]⟩, nilS, nilS, nilS, nilS, nilS, .int .i64 0, nilS, nilS] ∧ Rd wr (some ⟨w.heap.size + 1, 0, none⟩) 3 (strL [tl0, tl1, []])) := hid (fun wr hb => ⟨HB3.out.trans (hb.mono (by omega)), HR3.out.grown ⟨hb.os, hb.tape, hb.output, hb.size, fun k hk hne => by
   rcases Nat.lt_or_ge k (w.heap.size + 2) with h | h
   ·exact hb.block k h
   ·exfalso; exact hne (by rw [hs3] at hk; congr 1; omega)⟩ (fun g e => by injection e with e; omega : ∀ g, some (w.heap.size + 2) = some g → 3 ≤ g), HKT3.out.below hb (by omega), HKL3.out.low hb (fun a e => by injection e with e; rw [← e]; show w.heap.size + 1 < w.heap.size + 2; omega)⟩)
 generalize hw3 : w2.alloc (.cells #[.string ⟨#[]⟩, nilS, nilS, nilS, nilS, nilS, .int .i64 0, nilS, nilS] 55) = w3 at *
 go_enter Tryz.func28, Tryz.ntmps28
 go_wp2_with fail
 refine HQ1.out.mono ?_
 rintro e w2' ⟨rfl, rfl⟩
 rw [show ([tl0, tl1, []] : List (List UInt8)).length = 3 from rfl]
 go_wp2_with fail
 go_loopw [8, 28] (fun fx ix wr => Below (w.heap.size + 2) w3 wr ∧ ((ix = .int .i64 0 ∧ fx = .int .i64 0 ∧ Blk wr (w.heap.size + 2) 55 #[.string ⟨#[]⟩, nilS, nilS, nilS, nilS, nilS, .int .i64 0, nilS, nilS]) ∨ (ix = .int .i64 1 ∧ fx = .int .i64 1 ∧ Blk wr (w.heap.size + 2) 55 #[.string (bstr [33, 114, 58, 97]), nilS, nilS, nilS, nilS, nilS, .int .i64 0, nilS, nilS]) ∨ (ix = .int .i64 2 ∧ fx = .int .i64 3 ∧ ∃ vR, Blk wr (w.heap.size + 2) 55 #[.string (bstr [33, 114, 58, 97]), nilS, vR, nilS, nilS, nilS, .int .i64 0, nilS, nilS] ∧ wr.ownsRow (w.heap.size + 3) 114 4 vR 1 (rowC (0, 5, 4, false))))) (fun _ ix _ => 2 - (RowKit.intOf ix).toNat)
 case atStart => exact ⟨Below.refl _ _, .inl ⟨rfl, rfl, HKG3.out⟩⟩
 case round =>
  obtain ⟨hb, hst⟩ := hrel
  have HB := hid hb
  have hbs := hb.size
  obtain ⟨hBw, hRw, hKT, hKL⟩ := HST.out wr hb
  have HBW := hid hBw
  have HRW := hid hRw
  have HKTW := hid hKT
  have HKLW := hid hKL
  clear hb hBw hRw hKT hKL
  rcases hst with ⟨rfl, rfl, hk⟩ | ⟨rfl, rfl, hk⟩ | ⟨rfl, rfl, vR, hk, ho⟩
  ·obtain ⟨b1, o1, x1, e1, hx, hc⟩ := HKLW.out.str_at (k := 0) (by decide)
   injection e1 with e1
   injection e1 with e1 e2 e3
   subst e1 e2
   obtain rfl : tl0 = x1 := Option.some.inj hx
   have HQ := hid (readhead_any (bstr tl0) (w.heap.size + 2) ⟨#[]⟩ nilS nilS nilS nilS nilS 0 nilS nilS wr (by rw [bstr_size]; decide) HRW.out hk (by omega) (by unfold Ar.inInt; omega))
   rw [show (bstr tl0).data.toList = tl0 from rfl, hd_ok, hd_x, hd_z] at HQ
   have HONE : Hid (∀ W, Calls Tryz.prog 75 #[.bool true] W fun e w' => e = .returned (.int .i64 1) ∧ W = w') := hid (fun W => one_any true W)
   clear hk hx
   generalize bstr tl0 = S0 at *
   rw [show 0 + 0 = 0 from rfl] at hc
   go_wp2_with fail
   refine HQ.out.mono ?_
   rintro e w4 ⟨rfl, hk4, hg4⟩
   have HP4 : Hid (Blk w4 (w.heap.size + 2) 55 #[.string (bstr [33, 114, 58, 97]), nilS, nilS, nilS, nilS, nilS, .int .i64 0, nilS, nilS] ∧ Below (w.heap.size + 2) w3 w4) := hid ⟨hk4, HB.out.grown hg4 (by omega) (fun g e => by injection e with e; omega)⟩
   clear hk4 hg4
   go_wp2_with fail
   refine (HONE.out _).mono ?_
   rintro e w5 ⟨rfl, rfl⟩
   go_wp2_with fail
   go_roundw
   case rel => exact ⟨HP4.out.2, .inr (.inl ⟨rfl, rfl, HP4.out.1⟩)⟩
   case measure => decide
  ·obtain ⟨b1, o1, x1, e1, hx, hc⟩ := HKLW.out.str_at (k := 1) (by decide)
   injection e1 with e1
   injection e1 with e1 e2 e3
   subst e1 e2
   obtain rfl : tl1 = x1 := Option.some.inj hx
   have HQ := hid (readline_row (bstr tl1) (w.heap.size + 2) (.string (bstr [33, 114, 58, 97])) nilS nilS nilS nilS nilS (.int .i64 0) nilS nilS 0 [] wr (by rw [bstr_size]; decide) HRW.out hk (by omega) (World.ownsRow_nil _ _ _ _) (by omega) rw_cut)
   rw [show (bstr tl1).data.toList = tl1 from rfl, rw_ok, rw_x] at HQ
   clear hk hx
   generalize bstr tl1 = S1 at *
   rw [show 0 + 1 = 1 from rfl] at hc
   go_wp2_with fail
   refine HQ.out.mono ?_
   rintro e w4 ⟨rfl, vR, hk4, ho4, hch4, hwh4⟩
   have HP4 : Hid (Blk w4 (w.heap.size + 2) 55 #[.string (bstr [33, 114, 58, 97]), nilS, vR, nilS, nilS, nilS, .int .i64 0, nilS, nilS] ∧ w4.ownsRow (w.heap.size + 3) 114 4 vR 1 (rowC (0, 5, 4, false)) ∧ Below (w.heap.size + 2) w3 w4) := hid ⟨hk4, ho4, HB.out.trans (hch4.low (by omega) (fun k e => by cases e))⟩
   clear hk4 ho4 hch4 hwh4
   go_wp2_with fail
   go_roundw
   case rel => exact ⟨HP4.out.2.2, .inr (.inr ⟨rfl, rfl, vR, HP4.out.1, HP4.out.2.1⟩)⟩
   case measure => decide
  ·obtain ⟨b1, o1, x1, e1, hx, hc⟩ := HKLW.out.str_at (k := 2) (by decide)
   injection e1 with e1
   injection e1 with e1 e2 e3
   subst e1 e2
   obtain rfl : [] = x1 := Option.some.inj hx
   have he : (bstr []).toList.isEmpty = true := by rw [Lib.toList_data]; rfl
   obtain ⟨AR, cR, rfl⟩ := own_any ho
   have HK := hid hk
   have HO := hid ho
   clear hk ho hx
   generalize bstr [] = S2 at *
   rw [show 0 + 2 = 2 from rfl] at hc
   have hgr : wr.grownBy (wr.setRow w.heap.size #[.string (bstr [33, 114, 58, 97]), nilS, .slice AR 1 cR, nilS, nilS, nilS, .int .i64 0, nilS, nilS]) (some w.heap.size) := ⟨rfl, rfl, rfl, by rw [setRow_size]; exact Nat.le_refl _, fun k hk hne => setRow_other wr w.heap.size k #[.string (bstr [33, 114, 58, 97]), nilS, .slice AR 1 cR, nilS, nilS, nilS, .int .i64 0, nilS, nilS] (fun e => hne (by rw [e]))⟩
   have HOF : Hid ((wr.setRow w.heap.size #[.string (bstr [33, 114, 58, 97]), nilS, .slice AR 1 cR, nilS, nilS, nilS, .int .i64 0, nilS, nilS]).ownsRow w.heap.size 114 4 (.slice AR 1 cR) 1 (rowC (0, 5, 4, false))) := hid (own_base' (HO.out.kept hgr (.inr (by intro e; have := (HO.out.lt _ e).1; omega))) (by omega))
   have HBF : Hid (Below w.heap.size w (wr.setRow w.heap.size #[.string (bstr [33, 114, 58, 97]), nilS, .slice AR 1 cR, nilS, nilS, nilS, .int .i64 0, nilS, nilS])) := hid (below_setRow HBW.out (Nat.le_refl _) _)
   have HKF := hid (setRow_heap wr w.heap.size #[.string ⟨#[]⟩, nilS, nilS, nilS, nilS, nilS, .int .i64 0, nilS, nilS] #[.string (bstr [33, 114, 58, 97]), nilS, .slice AR 1 cR, nilS, nilS, nilS, .int .i64 0, nilS, nilS] 55 (0, 0) HKTW.out)
   clear hgr
   go_wp2_with (first | (refine wpList_load_row rfl 55 _ rfl (w.heap.size + 2) rfl 55 #[.string (bstr [33, 114, 58, 97]), nilS, .slice AR 1 cR, nilS, nilS, nilS, .int .i64 0, nilS, nilS] (0, 0) _ HK.out Tryz.underlying55 rfl (by kernel_rfl) ?_) | (refine wpList_store_row rfl 55 _ _ rfl w.heap.size #[.string (bstr [33, 114, 58, 97]), nilS, .slice AR 1 cR, nilS, nilS, nilS, .int .i64 0, nilS, nilS] rfl rfl 55 #[.string ⟨#[]⟩, nilS, nilS, nilS, nilS, nilS, .int .i64 0, nilS, nilS] HKTW.out (by kernel_rfl) rfl (by simp [Value.oneCell']) ?_))
   exact bodyPost_ret (results_row_tmp2 rfl _ _ w.heap.size _ #[.string (bstr [33, 114, 58, 97]), nilS, .slice AR 1 cR, nilS, nilS, nilS, .int .i64 0, nilS, nilS] _ rfl HKF.out Tryz.underlying55 rfl (by kernel_rfl)) rfl ⟨.slice AR 1 cR, rfl, HOF.out, HBF.out⟩
end Go.Proofs.YteadlcncnhbmjaaGreatDoor
/- The text Anl. -/
namespace Go.Proofs.YteadlcncnhbmjaaGreatDoor
open Go.RowKit Go.Lib
set_option linter.unusedVariables false
theorem trim_ev {x : List UInt8} (h : hasPrefix x Ar.evW = true) : trimPrefix x Ar.evW = x.drop 6 := by unfold trimPrefix; rw [if_pos h]; rfl
theorem add_mask (a b : Nat) (ha : a < 4611686018427387904) (hb : b < 4611686018427387904) : bits .and .i64 (wrap64 ((a : Int) + (b : Int))) 4611686018427387903 = (((a + b) % 4611686018427387904 : Nat) : Int) := by
 rw [i64_mask]
 unfold wrap64
 omega
theorem conv_str (W : World) (s : ByteArray) : (convert 9 69 (.string s)).run Tryz.prog W = .ok (.slice (some ⟨W.heap.size, 0, none⟩) s.size (grownCap W s.size 0 5)) (W.drew.alloc (.cells (bytesRow s (grownCap W s.size 0 5)) 5 ((bytesRow s (grownCap W s.size 0 5)).size, (bytesRow s (grownCap W s.size 0 5)).size + 1))) :=
 run_bytes_of_string W _ _ _ s Tryz.underlying9 Tryz.underlying69 Tryz.underlying5
theorem sums_any (s : ByteArray) (w : World) (hs : s.size ≤ 100000) (hR : Ready w) :
  Calls Tryz.prog 39 #[.string s] w fun e w' => e = .returned (.int .i64 (sums (Ar.lines s.data.toList) : Nat)) ∧ Below w.heap.size w w' := by
 have HR := hid hR
 clear hR
 go_enter Tryz.func39, Tryz.ntmps39
 go_wp2_with fail
 refine (lines_any s w (by omega) HR.out).mono ?_
 rintro e w1 ⟨rfl, rfl⟩
 have HSH := hid (Ar.lines_short s.data.toList)
 have hll := Ar.lines_len s.data.toList
 have hsz : s.data.toList.length = s.size := str_size s
 rw [hsz] at hll
 have HSZ := hid hsz
 clear hsz
 generalize hLL : Ar.lines s.data.toList = L at *
 have HLL := hid hLL
 clear hLL
 have HRL := hid (Rd.litS w L)
 have HB0 := hid ((Below.refl w.heap.size w).alloc (Nat.le_refl _) (.cells (strL L).toArray 9))
 go_wp2_with fail
 go_loopw [3, 11] (fun t ix wr => ∃ k : Nat, k ≤ L.length ∧ ix = .int .i64 k ∧ t = .int .i64 ((L.take k).foldl sumL 0 : Nat) ∧ Below (w.heap.size + 1) (w.alloc (.cells (strL L).toArray 9)) wr) (fun _ ix _ => L.length - (RowKit.intOf ix).toNat)
 case atStart => exact ⟨0, by omega, rfl, rfl, Below.refl _ _⟩
 case round =>
  obtain ⟨k, hk, rfl, rfl, hb⟩ := hrel
  have HB := hid hb
  have hbs := hb.size
  rw [World.size_alloc] at hbs
  clear hb
  have hT := foldl_lt (L.take k) 0 (by omega)
  by_cases hlt : k < L.length
  ·obtain ⟨ba, oa, x, e1, hx, hc0⟩ := (HRL.out.below (by rw [World.size_alloc]; exact HB.out)).str_at hlt
   injection e1 with e1
   injection e1 with e1 e2 e3
   subst e1 e2
   rw [Nat.zero_add] at hc0
   have HXK := hid (take_snoc hx)
   have HXL : Hid (x.length ≤ s.size) := hid (by have := HSH.out x (List.mem_of_getElem? hx); rw [HSZ.out] at this; exact this)
   have hcp := Tryz.strings_CutPrefix (bstr x) ⟨#[101, 118, 101, 110, 116, 32]⟩
   rw [show (bstr x).data.toList = x from rfl, show (⟨#[101, 118, 101, 110, 116, 32]⟩ : ByteArray).data.toList = Ar.evW from rfl] at hcp
   have HCP := hid hcp
   clear hx hcp
   by_cases hp : hasPrefix x Ar.evW = true
   ·have HT := hid (trim_ev hp)
    have HS := hid (show sumL ((L.take k).foldl sumL 0) x = ((L.take k).foldl sumL 0 + sumB (x.drop 6)) % 4611686018427387904 from if_pos hp)
    have HP := hid hp
    clear hp
    generalize bstr x = X at *
    go_wp2_with fail
    refine (HCP.out _).mono ?_
    rintro e w2 ⟨rfl, rfl⟩
    rw [HP.out, HT.out, show (⟨(x.drop 6).toArray⟩ : ByteArray) = bstr (x.drop 6) from rfl]
    have hcv := conv_str w2 (bstr (x.drop 6))
    have hsl := sumB_lt (x.drop 6)
    generalize hD : x.drop 6 = D at *
    generalize hcap : grownCap w2 (bstr D).size 0 5 = cap at *
    have HRD := hid (Rd.bytes_new w2.drew (bstr D) cap ((bytesRow (bstr D) cap).size, (bytesRow (bstr D) cap).size + 1))
    have HDL : Hid (D.length ≤ 1000000) := hid (by rw [← hD, List.length_drop]; have := HXL.out; omega)
    have hsD : (bstr D).size = D.length := bstr_size D
    clear hD hcap
    go_wp2_with fail
    refine (sumB_any _ cap D _ HRD.out HDL.out).mono ?_
    rintro e w3 ⟨rfl, rfl⟩
    have key := add_mask ((L.take k).foldl sumL 0) (sumB D) hT hsl
    obtain ⟨R, hR⟩ : ∃ R : Nat, ((L.take k).foldl sumL 0 + sumB D) % 4611686018427387904 = R := ⟨_, rfl⟩
    rw [hR] at key
    have HRR : Hid ((L.take (k + 1)).foldl sumL 0 = R) := hid (by rw [HXK.out, List.foldl_append, List.foldl_cons, List.foldl_nil, HS.out]; exact hR)
    clear hT hsl hR HS HT HP HXK
    generalize (L.take k).foldl sumL 0 = T at *
    generalize sumB D = S at *
    go_wp2_with fail
    go_roundw
    case rel => exact ⟨k + 1, by omega, by go_num, by rw [HRR.out], (HB.out.alloc hbs _).drew⟩
    case measure => simp [RowKit.intOf]; omega
   ·have hp' : hasPrefix x Ar.evW = false := by simpa using hp
    have HS := hid (show sumL ((L.take k).foldl sumL 0) x = (L.take k).foldl sumL 0 from if_neg hp)
    have HP := hid hp'
    clear hp hp'
    generalize bstr x = X at *
    go_wp2_with fail
    refine (HCP.out _).mono ?_
    rintro e w2 ⟨rfl, rfl⟩
    rw [HP.out]
    go_wp2_with fail
    go_roundw
    case rel => exact ⟨k + 1, by omega, by go_num, by rw [HXK.out, List.foldl_append, List.foldl_cons, List.foldl_nil, HS.out], HB.out⟩
    case measure => simp [RowKit.intOf]; omega
  ·obtain rfl : k = L.length := by omega
   have HF : Hid (Below w.heap.size w wr) := hid (HB0.out.trans (HB.out.mono (by omega)))
   rw [List.take_length]
   go_wp2_with fail
   go_ret
   exact ⟨ret_int (by rw [HLL.out]; rfl), HF.out⟩
end Go.Proofs.YteadlcncnhbmjaaGreatDoor
/- The text Ax3. -/
namespace Ar
theorem lines_next {s : Str} {f i : Nat} {O : List Str} (h : lines s = O ++ lines (s.drop f)) (hf : f ≤ i) (hn : (10 : UInt8) ∉ (s.drop f).take (i - f)) (hi : s[i]? = some 10) : lines s = (O ++ [(s.drop f).take (i - f)]) ++ lines (s.drop (i + 1)) := by
 have e : s.drop f = (s.drop f).take (i - f) ++ 10 :: s.drop (i + 1) := by
  have h1 := (List.take_append_drop (i - f) (s.drop f)).symm
  rw [List.drop_drop, show f + (i - f) = i from by omega] at h1
  obtain ⟨h2, h3⟩ := List.getElem?_eq_some_iff.1 hi
  rw [List.drop_eq_getElem_cons h2, h3] at h1
  exact h1
 rw [h]
 conv => lhs; rw [e]
 rw [lines_cons _ _ hn]
 simp
theorem take_more {s : Str} {f i : Nat} {c : UInt8} (hf : f ≤ i) (hn : (10 : UInt8) ∉ (s.drop f).take (i - f)) (hi : s[i]? = some c) (hc : c ≠ 10) : (10 : UInt8) ∉ (s.drop f).take (i + 1 - f) := by
 have h1 : (s.drop f)[i - f]? = some c := by rw [List.getElem?_drop, show f + (i - f) = i from by omega]; exact hi
 rw [show i + 1 - f = (i - f) + 1 from by omega, Go.Proofs.YteadlcncnhbmjaaGreatDoor.take_snoc h1]
 intro hm
 rcases List.mem_append.1 hm with hm | hm
 ·exact hn hm
 ·exact hc (List.mem_singleton.1 hm).symm
end Ar
namespace Go.Proofs.YteadlcncnhbmjaaGreatDoor
open Go.RowKit Go.Lib
set_option linter.unusedVariables false
theorem extract_mid (s : ByteArray) (f i : Nat) : s.extract f i = bstr ((s.data.toList.drop f).take (i - f)) := str_eq (by rw [extract_list]; rfl)
theorem rlines_any (S : ByteArray) (w : World) (hs : S.size ≤ 1000000) :
  Calls Tryz.prog 35 #[.string S] w fun e w' => (∃ v, e = .returned v ∧ OwnS w.heap.size w' v (Ar.lines S.data.toList)) ∧ Below w.heap.size w w' := by
 have HSZ : Hid (S.data.toList.length = S.size) := hid (str_size S)
 have HEX := hid (extract_mid S)
 have HB1 := hid ((Below.refl w.heap.size w).alloc (Nat.le_refl _) (.cells #[] 9))
 have HO1 : Hid (OwnS w.heap.size (w.alloc (.cells #[] 9)) (.slice (some ⟨w.heap.size, 0, none⟩) 0 0) []) := hid (World.ownsRow_lit (base := w.heap.size) (e := 9) (size := 1) w #[] 0 (Nat.le_refl _) (by decide) rfl)
 generalize hw1 : w.alloc (.cells #[] 9) = w1 at *
 go_enter Tryz.func35, Tryz.ntmps35
 go_wp2_with fail
 go_loopw [3, 4, 5] (fun ox fx ix wr => ∃ (i f : Nat) (O : List (List UInt8)), i ≤ S.size ∧ f ≤ i ∧ ix = .int .i64 i ∧ fx = .int .i64 f ∧ O.length ≤ i ∧ OwnS w.heap.size wr ox O ∧ Ar.lines S.data.toList = O ++ Ar.lines (S.data.toList.drop f) ∧ (10 : UInt8) ∉ (S.data.toList.drop f).take (i - f) ∧ Below w.heap.size w wr) (fun _ _ ix _ => S.size - (RowKit.intOf ix).toNat)
 case atStart => exact ⟨0, 0, [], Nat.zero_le _, Nat.le_refl _, rfl, rfl, Nat.le_refl _, HO1.out, rfl, by simp, HB1.out⟩
 case round =>
  obtain ⟨i, f, O, hi, hf, rfl, rfl, hol, ho, heq, hno, hb⟩ := hrel
  have HO := hid ho
  have HEQ := hid heq
  have HNO := hid hno
  have HB := hid hb
  have hbs := hb.size
  obtain ⟨AO, cO, rfl⟩ := own_any ho
  clear ho heq hno hb
  by_cases hlt : i < S.size
  ·have hat := at_str S i hlt
   have HAT := hid hat
   by_cases hc : S[i]'hlt = 10
   ·have hy : (((S[i]'hlt).toNat : Int) == 10) = true := by rw [hc]; rfl
    have hex := HEX.out f i
    obtain ⟨P, hP⟩ : ∃ P, (S.data.toList.drop f).take (i - f) = P := ⟨_, rfl⟩
    rw [hP] at hex
    have HN : Hid (Ar.lines S.data.toList = (O ++ [P]) ++ Ar.lines (S.data.toList.drop (i + 1))) := hid (by rw [← hP]; exact Ar.lines_next HEQ.out hf HNO.out (by rw [← hc]; exact HAT.out))
    have hfi : (f : Int) ≤ (i : Int) := by omega
    clear hat hc hP
    go_wp2_with (at_builtin; refine app_lit rowStr rfl _ _ rfl wr (strL [P]) 1 rfl (one_strs [P]) (.slice AO O.length cO) O.length (strL O) w.heap.size rfl HO.out rfl hbs (by omega) ?_; intro v4 w4 ho4 hg4 hb4)
    go_roundw
    case rel =>
     refine ⟨i + 1, i + 1, O ++ [P], hlt, Nat.le_refl _, by go_num, by go_num, by rw [List.length_append, List.length_singleton]; omega, ?_, HN.out, by rw [Nat.sub_self]; simp, hb4 w HB.out⟩
     unfold OwnS
     rw [List.length_append, strL_append]
     exact ho4
    case measure => simp [RowKit.intOf]; omega
   ·have hcn : (S[i]'hlt).toNat ≠ 10 := fun h => hc (Ar.byte_ext (by rw [h]; rfl))
    have hy : (((S[i]'hlt).toNat : Int) == 10) = false := by rw [beq_eq_false_iff_ne]; omega
    have HN : Hid ((10 : UInt8) ∉ (S.data.toList.drop f).take (i + 1 - f)) := hid (Ar.take_more hf HNO.out HAT.out hc)
    clear hat hc hcn
    go_wp2_with fail
    go_roundw
    case rel => exact ⟨i + 1, f, O, hlt, by omega, by go_num, rfl, by omega, HO.out, HEQ.out, HN.out, HB.out⟩
    case measure => simp [RowKit.intOf]; omega
  ·obtain rfl : i = S.size := by omega
   have hex := extract_bstr S f
   obtain ⟨P, hP⟩ : ∃ P, S.data.toList.drop f = P := ⟨_, rfl⟩
   rw [hP] at hex
   have HN : Hid (Ar.lines S.data.toList = O ++ [P]) := hid (by
    have h1 := HEQ.out
    have h2 := HNO.out
    rw [hP] at h1 h2
    rw [List.take_of_length_le (by rw [← hP, List.length_drop]; have := HSZ.out; omega)] at h2
    rw [h1, Ar.lines_of_noLF _ h2])
   clear hP
   go_wp2_with (at_builtin; refine app_lit rowStr rfl _ _ rfl wr (strL [P]) 1 rfl (one_strs [P]) (.slice AO O.length cO) O.length (strL O) w.heap.size rfl HO.out rfl hbs (by omega) ?_; intro v4 w4 ho4 hg4 hb4)
   go_ret
   exact ⟨⟨v4, rfl, by rw [HN.out]; unfold OwnS; rw [List.length_append, strL_append]; exact ho4⟩, hb4 w HB.out⟩
theorem take_pre (s p : List UInt8) (h : p.length ≤ s.length) : (s.take p.length == p) = Lib.hasPrefix s p := by
 unfold Lib.hasPrefix
 by_cases hp : p <+: s
 ·obtain ⟨t, rfl⟩ := hp
  rw [List.take_left, beq_self_eq_true]
  exact (List.isPrefixOf_iff_prefix.2 (List.prefix_append p t)).symm
 ·have h1 : ¬ (p.isPrefixOf s = true) := fun e => hp (List.isPrefixOf_iff_prefix.1 e)
  have h2 : ¬ (s.take p.length = p) := fun e => hp (e ▸ List.take_prefix _ _)
  rw [beq_eq_false_iff_ne.2 h2]
  cases hh : p.isPrefixOf s with
  | true => exact absurd hh h1
  | false => rfl
theorem rprefix_any (s p : List UInt8) (w : World) (hs : s.length ≤ 1000000) (hp : p.length ≤ 1000000) :
  Calls Tryz.prog 99 #[.string (bstr s), .string (bstr p)] w fun e w' => e = .returned (.tuple #[.string (bstr (if Lib.hasPrefix s p then s.drop p.length else [])), .bool (Lib.hasPrefix s p)]) ∧ w = w' := by
 have hsz : (bstr s).size = s.length := bstr_size s
 have hpz : (bstr p).size = p.length := bstr_size p
 by_cases hlt : s.length < p.length
 ·have h0 : Lib.hasPrefix s p = false := by
   cases hh : Lib.hasPrefix s p with
   | false => rfl
   | true =>
    have := prefix_len hh
    omega
  have hb : (bstr []) = (⟨#[]⟩ : ByteArray) := rfl
  rw [h0]
  have hlt' : (bstr s).size < (bstr p).size := by omega
  generalize bstr s = S at *
  generalize bstr p = Q at *
  go_enter Tryz.func99, Tryz.ntmps99
  go_wp2_with fail
  go_ret2
  exact ⟨rfl, rfl⟩
 ·have hle : (bstr p).size ≤ (bstr s).size := by omega
  have h1 := extract_take (bstr s) (bstr p).size hle
  have h2 := extract_bstr (bstr s) (bstr p).size
  rw [show (bstr s).data.toList = s from rfl] at h1 h2
  have hcm : ((bstr (s.take (bstr p).size)).toList == (bstr p).toList) = Lib.hasPrefix s p := by
   rw [Lib.toList_data, Lib.toList_data, ← take_pre s p (by omega), hpz]
   rfl
  have hdr : (if Lib.hasPrefix s p = true then s.drop p.length else []) = if Lib.hasPrefix s p = true then s.drop (bstr p).size else [] := by rw [hpz]
  rw [hdr]
  clear hdr hsz
  cases hb : Lib.hasPrefix s p with
  | true =>
   rw [hb] at hcm
   have hcn : (!((bstr (s.take (bstr p).size)).toList == (bstr p).toList)) = false := by rw [hcm]; rfl
   have HR : Hid ((if true = true then s.drop (bstr p).size else []) = s.drop (bstr p).size) := hid rfl
   rw [HR.out]
   generalize s.drop (bstr p).size = D at *
   generalize bstr (s.take (bstr p).size) = T at *
   generalize bstr D = BD at *
   generalize bstr s = S at *
   clear hpz
   generalize bstr p = Q at *
   go_enter Tryz.func99, Tryz.ntmps99
   go_wp2_with fail
   go_ret2
   exact ⟨rfl, rfl⟩
  | false =>
   rw [hb] at hcm
   have hcn : (!((bstr (s.take (bstr p).size)).toList == (bstr p).toList)) = true := by rw [hcm]; rfl
   have HR : Hid ((if false = true then s.drop (bstr p).size else []) = []) := hid rfl
   rw [HR.out]
   generalize bstr (s.take (bstr p).size) = T at *
   generalize bstr (s.drop (bstr p).size) = BD at *
   generalize bstr s = S at *
   clear hpz
   generalize bstr p = Q at *
   go_enter Tryz.func99, Tryz.ntmps99
   go_wp2_with fail
   go_ret2
   exact ⟨rfl, rfl⟩
end Go.Proofs.YteadlcncnhbmjaaGreatDoor
/- The text Ax4. -/
namespace Go.Proofs.YteadlcncnhbmjaaGreatDoor
open Go.RowKit Go.Lib
set_option linter.unusedVariables false
theorem add_rem (a b : Nat) (ha : a < 4611686018427387904) (hb : b < 4611686018427387904) : Int.tmod (wrap64 ((a : Int) + (b : Int))) 4611686018427387904 = (((a + b) % 4611686018427387904 : Nat) : Int) := by
 have e : wrap64 ((a : Int) + (b : Int)) = (a : Int) + b := by unfold wrap64; omega
 rw [e, Int.tmod_eq_emod_of_nonneg (by omega)]
 omega
theorem rsums_any (s : ByteArray) (w : World) (hs : s.size ≤ 100000) :
  Calls Tryz.prog 40 #[.string s] w fun e w' => e = .returned (.int .i64 (sums (Ar.lines s.data.toList) : Nat)) ∧ Below w.heap.size w w' := by
 have HRL0 := hid (rlines_any s w (by omega))
 have HSH := hid (Ar.lines_short s.data.toList)
 have hll := Ar.lines_len s.data.toList
 have hsz : s.data.toList.length = s.size := str_size s
 rw [hsz] at hll
 have HSZ := hid hsz
 clear hsz
 generalize hLL : Ar.lines s.data.toList = L at *
 have HLL := hid hLL
 clear hLL
 go_enter Tryz.func40, Tryz.ntmps40
 go_wp2_with fail
 refine HRL0.out.mono ?_
 rintro e w1 ⟨⟨v1, rfl, ho1⟩, hb1⟩
 obtain ⟨A1, c1, rfl⟩ := own_any ho1
 have HRL := hid (Rd.of_own ho1)
 have HB1 := hid hb1
 have hs1 := hb1.size
 clear ho1 hb1
 go_wp2_with fail
 go_loopw [4, 5] (fun t ix wr => ∃ k : Nat, k ≤ L.length ∧ ix = .int .i64 k ∧ t = .int .i64 ((L.take k).foldl sumL 0 : Nat) ∧ Below w1.heap.size w1 wr) (fun _ ix _ => L.length - (RowKit.intOf ix).toNat)
 case atStart => exact ⟨0, by omega, rfl, rfl, Below.refl _ _⟩
 case round =>
  obtain ⟨k, hk, rfl, rfl, hb⟩ := hrel
  have HB := hid hb
  have hbs := hb.size
  clear hb
  have hT := foldl_lt (L.take k) 0 (by omega)
  by_cases hlt : k < L.length
  ·obtain ⟨ba, oa, x, rfl, hx, hc0⟩ := (HRL.out.below HB.out).str_at hlt
   have HXK := hid (take_snoc hx)
   have HXL : Hid (x.length ≤ s.size) := hid (by have := HSH.out x (List.mem_of_getElem? hx); rw [HSZ.out] at this; exact this)
   have hcp := fun W => rprefix_any x [101, 118, 101, 110, 116, 32] W (by have := HXL.out; omega) (by decide)
   rw [show bstr [101, 118, 101, 110, 116, 32] = (⟨#[101, 118, 101, 110, 116, 32]⟩ : ByteArray) from rfl, show ([101, 118, 101, 110, 116, 32] : List UInt8) = Ar.evW from rfl] at hcp
   have HCP := hid hcp
   clear hx hcp
   by_cases hp : hasPrefix x Ar.evW = true
   ·have HS := hid (show sumL ((L.take k).foldl sumL 0) x = ((L.take k).foldl sumL 0 + sumB (x.drop 6)) % 4611686018427387904 from if_pos hp)
    have HP := hid hp
    clear hp
    generalize bstr x = X at *
    go_wp2_with fail
    refine (HCP.out _).mono ?_
    rintro e w2 ⟨rfl, rfl⟩
    rw [HP.out, if_pos rfl, show Ar.evW.length = 6 from rfl]
    have hcv := conv_str wr (bstr (x.drop 6))
    have hsl := sumB_lt (x.drop 6)
    generalize hD : x.drop 6 = D at *
    generalize hcap : grownCap wr (bstr D).size 0 5 = cap at *
    have HRD := hid (Rd.bytes_new wr.drew (bstr D) cap ((bytesRow (bstr D) cap).size, (bytesRow (bstr D) cap).size + 1))
    have HDL : Hid (D.length ≤ 1000000) := hid (by rw [← hD, List.length_drop]; have := HXL.out; omega)
    have hsD : (bstr D).size = D.length := bstr_size D
    clear hD hcap
    go_wp2_with fail
    refine (rsumB_any _ cap D _ HRD.out HDL.out).mono ?_
    rintro e w3 ⟨rfl, rfl⟩
    have key := add_rem ((L.take k).foldl sumL 0) (sumB D) hT hsl
    obtain ⟨R, hR⟩ : ∃ R : Nat, ((L.take k).foldl sumL 0 + sumB D) % 4611686018427387904 = R := ⟨_, rfl⟩
    rw [hR] at key
    have HRR : Hid ((L.take (k + 1)).foldl sumL 0 = R) := hid (by rw [HXK.out, List.foldl_append, List.foldl_cons, List.foldl_nil, HS.out]; exact hR)
    clear hT hsl hR HS HP HXK
    generalize (L.take k).foldl sumL 0 = T at *
    generalize sumB D = S at *
    go_wp2_with fail
    go_roundw
    case rel => exact ⟨k + 1, by omega, by go_num, by rw [HRR.out], (HB.out.alloc hbs _).drew⟩
    case measure => simp [RowKit.intOf]; omega
   ·have hp' : hasPrefix x Ar.evW = false := by simpa using hp
    have HS := hid (show sumL ((L.take k).foldl sumL 0) x = (L.take k).foldl sumL 0 from if_neg hp)
    have HP := hid hp'
    clear hp hp'
    generalize bstr x = X at *
    go_wp2_with fail
    refine (HCP.out _).mono ?_
    rintro e w2 ⟨rfl, rfl⟩
    rw [HP.out]
    go_wp2_with fail
    go_roundw
    case rel => exact ⟨k + 1, by omega, by go_num, by rw [HXK.out, List.foldl_append, List.foldl_cons, List.foldl_nil, HS.out], HB.out⟩
    case measure => simp [RowKit.intOf]; omega
  ·obtain rfl : k = L.length := by omega
   have HF : Hid (Below w.heap.size w wr) := hid (HB1.out.trans (HB.out.mono (by omega)))
   rw [List.take_length]
   go_wp2_with fail
   go_ret
   exact ⟨ret_int (by rfl), HF.out⟩
end Go.Proofs.YteadlcncnhbmjaaGreatDoor
/- The text Al2. -/
namespace Go.Proofs.YteadlcncnhbmjaaGreatDoor
open Go.RowKit Go.Lib
set_option linter.unusedVariables false
theorem EvOf.set {ok : Nat → Prop} {w : World} {cells : Array Value} {e : List Ar.FV} (h : EvOf ok w cells e) {i : Nat} {v : Ar.FV} {c : Value} (hi : i < 29) (hv : v.kind = Ar.kindAt i ∧ v.Ok) (hc : CellOf ok w c v) : EvOf ok w (cells.setIfInBounds i c) (e.set i v) := by
 refine ⟨by rw [Array.size_setIfInBounds]; exact h.size, h.fits.set hv, fun j u hj => ?_⟩
 by_cases hji : j = i
 ·subst hji
  rw [List.getElem?_set_self (by rw [h.len]; exact hi)] at hj
  injection hj with hj
  subst hj
  exact ⟨c, by rw [Array.getElem?_setIfInBounds, if_pos rfl, if_pos (by rw [h.size]; exact hi)], hc⟩
 ·rw [List.getElem?_set_ne (Ne.symm hji)] at hj
  obtain ⟨c', h1, h2⟩ := h.cell j u hj
  exact ⟨c', by rw [Array.getElem?_setIfInBounds, if_neg (Ne.symm hji)]; exact h1, h2⟩
def e0C (P : Nat) : Array Value := ((((zeroEv.setIfInBounds 0 (.int .i64 5)).setIfInBounds 3 (.int .i64 11)).setIfInBounds 8 (.slice (some ⟨P, 0, none⟩) 2 2)).setIfInBounds 10 (.string (bstr [104, 105])))
theorem e0_of {w : World} {P : Nat} (h : Blk w P 3 #[.int .i64 3, .int .i64 4]) : EvOf (fun b => True) w (e0C P) Ar.e0 := by
 unfold e0C Ar.e0
 have i5 : Ar.inInt 5 := by unfold Ar.inInt; omega
 have i11 : Ar.inInt 11 := by unfold Ar.inInt; omega
 have hn : (Ar.FV.nums [3, 4]).Ok := by
  intro n hn
  simp only [List.mem_cons, List.not_mem_nil, or_false] at hn
  unfold Ar.inInt
  rcases hn with rfl | rfl <;> omega
 refine EvOf.set (EvOf.set (EvOf.set (v := .num 11) (EvOf.set (v := .num 5) (zero_ev _ w) (by decide) ⟨rfl, i5⟩ rfl) (by decide) ⟨rfl, i11⟩ rfl) (by decide) ⟨rfl, hn⟩ ?_) (by decide) ⟨rfl, trivial⟩ rfl
 exact ⟨some ⟨P, 0, none⟩, 2, rfl, by have := Rd.of_blk (vs := intL [3, 4]) h; exact this, fun _ _ _ => trivial⟩
theorem Blk.new1 (w : World) (o : Obj) (t : TypeId) (cs : Array Value) : Blk ((w.alloc o).alloc (.cells cs t)) (w.heap.size + 1) t cs := by
 have h := Blk.new (w.alloc o) t cs
 rwa [World.size_alloc] at h
theorem e0C_size (P : Nat) : (e0C P).size = 29 := by unfold e0C; simp only [Array.size_setIfInBounds]; rfl
theorem SlB.nil (w : World) (base sz : Nat) : SlB w base nilS 0 sz [] := ⟨none, 0, rfl, ⟨by simp, fun j v h => by simp at h⟩, fun h => absurd h (by omega)⟩
theorem room0_v {w : World} {base : Nat} {A : Option Addr} {c : Nat} (h : w.ownsRow base 114 4 (.slice A 1 c) 1 (rowC (0, 5, 4, false))) : RoomV w w.heap.size Ar.room0 nilS (.slice A 1 c) nilS nilS nilS nilS nilS := by
 have hrow : SlB w w.heap.size (.slice A 1 c) 1 4 (rowC (0, 5, 4, false)) := by
  have hlt := h.lt
  obtain ⟨A', c', e, h1, h2⟩ := SlcOf.of_own h
  refine ⟨A', c', e, h1, fun hn a ha => ?_⟩
  injection e with e1 e2 e3
  subst e1
  subst ha
  exact (hlt a.block rfl).2
 exact { ev := ⟨none, 0, rfl, fun i e hi => by cases hi⟩, row := hrow, wait := ⟨none, 0, rfl, fun i e hi => by cases hi⟩, heads := SlB.nil _ _ _, state := SlB.nil _ _ _, rcp := SlB.nil _ _ _, typ := SlB.nil _ _ _ }
theorem room0_fine : Fine Ar.room0 := by
 have h0 : Ar.inInt 0 := by unfold Ar.inInt; omega
 have h5 : Ar.inInt 5 := by unfold Ar.inInt; omega
 have h4 : Ar.inInt 4 := by unfold Ar.inInt; omega
 have hr : ∀ x ∈ Ar.room0.rows, Ar.inInt x.1 ∧ Ar.inInt x.2.1 ∧ Ar.inInt x.2.2.1 := by
  intro x hx
  have : x = (0, 5, 4, false) := List.mem_singleton.1 hx
  subst this
  exact ⟨h0, h5, h4⟩
 exact ⟨h0, by decide, (fun e h => by cases h), hr, (fun e h => by cases h), (fun e h => by cases h), (fun e h => by cases h), (fun e h => by cases h), (fun e h => by cases h), by decide, by decide, by decide, by decide⟩
theorem lives_any (w : World) (hR : Ready w) : Calls Tryz.prog 13 #[] w fun e w' => e = .returned (.bool true) ∧ Below w.heap.size w w' := by
 have HRY := hid hR
 have hu : uqV (Ar.unquote (⟨#[34, 98, 34, 99]⟩ : ByteArray).data.toList) = .tuple #[.string (bstr [98]), .string (bstr [99]), .bool true] := by rw [show (⟨#[34, 98, 34, 99]⟩ : ByteArray).data.toList = [34, 98, 34, 99] from rfl, Ar.unq0]; rfl
 have HU := hid (unquote_any ⟨#[34, 98, 34, 99]⟩ w (by decide))
 rw [hu] at HU
 clear hR hu
 go_enter Tryz.func13, Tryz.ntmps13
 go_wp2_with fail
 refine HU.out.mono ?_
 rintro e w1 ⟨rfl, hb1⟩
 have HB1 := hid hb1
 clear hb1
 have HS0 : Hid ((Tryz.prog.info? 40).map (·.size) = some (e0C w1.heap.size).size) := hid (by rw [size_event, e0C_size])
 have HI : Hid (Blk (w1.alloc (.cells #[.int .i64 3, .int .i64 4] 3)) w1.heap.size 3 #[.int .i64 3, .int .i64 4]) := hid (Blk.new w1 _ _)
 have HO0 : Hid ((e0C w1.heap.size).all (·.oneCell') = true) := hid (e0_of HI.out).one
 go_wp2_with ((with_reducible refine wpList_store_row' rfl 40 _ _ rfl (w1.heap.size + 1) (e0C w1.heap.size) ?_ ?_ 40 _ (Blk.new1 w1 (.cells #[.int .i64 3, .int .i64 4] 3) 40 _) HS0.out ?_ HO0.out ?_); rfl; rfl; (rw [e0C_size]; rfl); intro w2 hk2 hs2 hbl2)
 have hzz := hbl2 (w1.heap.size + 1) (Nat.le_refl _)
 have hal : ∀ cs, Below (w1.heap.size + 1) (w1.alloc (.cells #[.int .i64 3, .int .i64 4] 3)) ((w1.alloc (.cells #[.int .i64 3, .int .i64 4] 3)).alloc (.cells cs 40)) := fun cs => (Below.refl _ _).alloc (by rw [World.size_alloc]; exact Nat.le_refl _) _
 have hz2 := (hal _).trans hzz
 have HB2 := hid (HB1.out.trans (((Below.refl w1.heap.size w1).alloc (Nat.le_refl _) (.cells #[.int .i64 3, .int .i64 4] 3)).trans (hz2.mono (Nat.le_succ _)) |>.mono HB1.out.size))
 have HE2 : Hid (EvOf (fun b => b < w2.heap.size) w2 (e0C w1.heap.size) Ar.e0) := hid ((e0_of ((hz2.block w1.heap.size (Nat.lt_succ_self _)).trans HI.out)).keep (fun b _ hb => ⟨hb, rfl⟩))
 have HK2 := hid hk2
 have hs2' : w1.heap.size + 1 < w2.heap.size := hk2.lt
 have HRE := hid (readevent_any (bstr Ar.line0) w2 (by decide) (HRY.out.below HB2.out))
 rw [show (bstr Ar.line0).data.toList = Ar.line0 from rfl] at HRE
 clear hk2 hs2 hbl2 hzz hal hz2
 refine HRE.out.mono ?_
 rintro r w3 ⟨hrev, hb3⟩
 have hrev2 : ∃ cells, r = .returned (.tuple #[.agg cells, .int .i64 0]) ∧ EvOf (fun b => w2.heap.size ≤ b) w3 cells Ar.e0 := by
  rcases hrev with ⟨e, cells, hp, h1, h2⟩ | ⟨hp, _⟩
  ·rw [Ar.parse_line0] at hp
   injection hp with hp
   subst hp
   exact ⟨cells, h1, h2⟩
  ·rw [Ar.parse_line0] at hp
   cases hp
 obtain ⟨cells, rfl, hev3⟩ := hrev2
 have HE3 := hid hev3
 have HB3 := hid (HB2.out.trans (hb3.mono HB2.out.size))
 have HK3 := hid (HK2.out.below hb3 HK2.out.lt)
 have HX3 := hid (HE2.out.below hb3)
 have HS3 : Hid ((Tryz.prog.info? 40).map (·.size) = some cells.size) := hid (by rw [size_event, hev3.size])
 have HO3 := hid hev3.one
 have HZ3 : Hid (zeroEv.size = cells.size) := hid (by rw [hev3.size]; rfl)
 clear hrev hb3 hev3
 go_wp2_with ((with_reducible refine wpList_store_row' rfl 40 _ _ rfl w3.heap.size cells ?_ ?_ 40 _ (Blk.new w3 40 _) HS3.out ?_ HO3.out ?_); rfl; rfl; exact HZ3.out; intro w4 hk4 hs4 hbl4)
 have hz4 := ((Below.refl w3.heap.size w3).alloc (Nat.le_refl _) (.cells zeroEv 40)).trans (hbl4 w3.heap.size (Nat.le_refl _))
 have HB4 := hid (HB3.out.trans (hz4.mono HB3.out.size))
 have HK4 := hid (HK3.out.below hz4 HK3.out.lt)
 have HX4 := hid (HX3.out.below hz4)
 have HF4 := hid hk4
 have HE4 := hid (HE3.out.below hz4)
 have HRD := hid (read_text0 w4 (HRY.out.below HB4.out))
 have h34 := hz4.size
 have h44 := hk4.lt
 clear hk4 hs4 hbl4 hz4
 refine HRD.out.mono ?_
 rintro r w5 ⟨vR, rfl, ho5, hb5⟩
 obtain ⟨AR, cR, rfl⟩ := own_any ho5
 have HO5 := hid ho5
 have HB5 := hid (HB4.out.trans (hb5.mono HB4.out.size))
 have HK5 := hid (HK4.out.below hb5 HK4.out.lt)
 have HX5 := hid (HX4.out.below hb5)
 have HF5 := hid (HF4.out.below hb5 HF4.out.lt)
 have HE5 := hid (HE4.out.below hb5)
 have h45 := hb5.size
 clear ho5 hb5
 go_wp2_with (first | ((with_reducible refine wpList_store_row' rfl 55 _ _ rfl w5.heap.size #[.string (bstr [33, 114, 58, 97]), nilS, .slice AR 1 cR, nilS, nilS, nilS, .int .i64 0, nilS, nilS] ?_ ?_ 55 _ (Blk.new w5 55 _) (by kernel_rfl) ?_ (by simp [Value.oneCell']) ?_); rfl; rfl; rfl; intro w6 hk6 hs6 hbl6) | (refine wpList_load_row rfl 55 _ rfl w5.heap.size rfl 55 #[.string (bstr [33, 114, 58, 97]), nilS, .slice AR 1 cR, nilS, nilS, nilS, .int .i64 0, nilS, nilS] (0, 0) _ hk6 Tryz.underlying55 rfl (by kernel_rfl) ?_))
 have hz6 := ((Below.refl w5.heap.size w5).alloc (Nat.le_refl _) (.cells #[.string ⟨#[]⟩, nilS, nilS, nilS, nilS, nilS, .int .i64 0, nilS, nilS] 55)).trans (hbl6 w5.heap.size (Nat.le_refl _))
 have HB6 := hid (HB5.out.trans (hz6.mono HB5.out.size))
 have HK6 := hid (HK5.out.below hz6 HK5.out.lt)
 have HX6 := hid (HX5.out.below hz6)
 have HF6 := hid (HF5.out.below hz6 HF5.out.lt)
 have HE6 := hid (HE5.out.below hz6)
 have HG6 := hid hk6
 have h56 := hz6.size
 have h66 := hk6.lt
 have HWR := hid (write_any Ar.room0 nilS (.slice AR 1 cR) nilS nilS nilS nilS nilS w6 (room0_v (own_below HO5.out hz6 (Nat.le_refl _))) room0_fine)
 clear hk6 hs6 hbl6 hz6
 refine HWR.out.mono ?_
 rintro r w7 ⟨hwa, hb7⟩
 have hwa2 : r = .returned (.tuple #[.string (bstr Ar.text0), .int .i64 0]) := by
  rcases hwa with ⟨t, ht, h1⟩ | ⟨ht, _⟩
  ·rw [Ar.write0] at ht
   injection ht with ht
   rw [h1, ← ht]
  ·rw [Ar.write0] at ht
   cases ht
 subst hwa2
 have HB7 := hid (HB6.out.trans (hb7.mono HB6.out.size))
 have HK7 := hid (HK6.out.below hb7 HK6.out.lt)
 have HX7 := hid (HX6.out.below hb7)
 have HF7 := hid (HF6.out.below hb7 HF6.out.lt)
 have HE7 := hid (HE6.out.below hb7)
 have HG7 := hid (HG6.out.below hb7 HG6.out.lt)
 have h67 := hb7.size
 have HDF := hid (diff_any (bstr Ar.ta) (bstr Ar.tb) w7 (by decide) (by decide) (HRY.out.below HB7.out) (by decide) (by decide))
 rw [show (bstr Ar.ta).data.toList = Ar.ta from rfl, show (bstr Ar.tb).data.toList = Ar.tb from rfl, show encs (Ar.diff (Ar.lines Ar.ta) (Ar.lines Ar.tb)) = Ar.td from Ar.diff_td] at HDF
 clear hb7 hwa
 go_wp2_with fail
 refine HDF.out.mono ?_
 rintro r w8 ⟨v8, rfl, ho8, hb8⟩
 obtain ⟨A8, c8, rfl⟩ := own_any ho8
 have HB8 := hid (HB7.out.trans (hb8.mono HB7.out.size))
 have HK8 := hid (HK7.out.below hb8 HK7.out.lt)
 have HX8 := hid (HX7.out.below hb8)
 have HF8 := hid (HF7.out.below hb8 HF7.out.lt)
 have HE8 := hid (HE7.out.below hb8)
 have HG8 := hid (HG7.out.below hb8 HG7.out.lt)
 have HD8 := hid (Rd.of_own ho8)
 have h78 := hb8.size
 have HAP := hid (apply_any (bstr Ar.ta) A8 c8 Ar.td w8 HD8.out (by decide) (by decide) (by decide) (HRY.out.below HB8.out))
 rw [show (bstr Ar.ta).data.toList = Ar.ta from rfl, Ar.apply_td] at HAP
 clear ho8 hb8
 go_wp2_with fail
 refine HAP.out.mono ?_
 rintro r w9 ⟨hap, hb9⟩
 simp only [List.append_eq, List.cons_append, List.nil_append] at *
 have hap2 : r = .returned (.tuple #[.string (bstr Ar.tb), .bool true]) := by
  rcases hap with ⟨t, ht, h1⟩ | ⟨ht, _⟩
  ·injection ht with ht
   rw [h1, ← ht]
  ·cases ht
 subst hap2
 have HB9 := hid (HB8.out.trans (hb9.mono HB8.out.size))
 have HK9 := hid (HK8.out.below hb9 HK8.out.lt)
 have HX9 := hid (HX8.out.below hb9)
 have HF9 := hid (HF8.out.below hb9 HF8.out.lt)
 have HE9 := hid (HE8.out.below hb9)
 have HG9 := hid (HG8.out.below hb9 HG8.out.lt)
 have HD9 := hid (HD8.out.below hb9)
 clear hb9 hap
 have s1 : ((bstr [98]).toList == [98]) = true := by rw [str_cmp]; rfl
 have s2 : ((bstr [99]).toList == [99]) = true := by rw [str_cmp]; rfl
 have s3 : ((bstr [34, 97, 92, 110, 92, 120, 102, 102, 34]).toList == [34, 97, 92, 110, 92, 120, 102, 102, 34]) = true := by rw [str_cmp]; decide
 have s4 : ((bstr Ar.line0).toList == [105, 100, 61, 53, 32, 107, 105, 110, 100, 61, 49, 49, 32, 112, 114, 101, 118, 61, 51, 44, 52, 32, 116, 101, 120, 116, 61, 34, 104, 105, 34]) = true := by rw [str_cmp]; exact beq_self_eq_true _
 have s5 : ((bstr Ar.text0).toList == [114, 111, 111, 109, 32, 34, 33, 114, 58, 97, 34, 10, 114, 111, 119, 32, 48, 32, 53, 32, 52, 10]) = true := by rw [str_cmp]; exact beq_self_eq_true _
 have s6 : ((bstr Ar.tb).toList == [97, 10, 99, 10, 100]) = true := by rw [str_cmp]; exact beq_self_eq_true _
 have s7 : ((bstr [33, 114, 58, 97]).toList == [33, 114, 58, 97]) = true := by rw [str_cmp]; rfl
 have HQ := hid (quote_any ⟨#[97, 10, 255]⟩ w9 (by decide))
 rw [show (⟨#[97, 10, 255]⟩ : ByteArray).data.toList = [97, 10, 255] from rfl, Ar.quote0] at HQ
 have hES : Hid ((Tryz.prog.info? 40).map (·.size) = some (e0C w1.heap.size).size) := HS0
 go_wp2_with fail
 refine HQ.out.mono ?_
 rintro r w10 ⟨rfl, hb10⟩
 have HB10 := hid (HB9.out.trans (hb10.mono HB9.out.size))
 have HK10 := hid (HK9.out.below hb10 HK9.out.lt)
 have HX10 := hid (HX9.out.below hb10)
 have HF10 := hid (HF9.out.below hb10 HF9.out.lt)
 have HE10 := hid (HE9.out.below hb10)
 have HG10 := hid (HG9.out.below hb10 HG9.out.lt)
 have HD10 := hid (HD9.out.below hb10)
 clear hb10
 go_wp2_with (refine load_row_w (by rfl) 40 _ rfl (w1.heap.size + 1) rfl 40 (e0C w1.heap.size) (0, 0) _ (by rfl) HK10.out Tryz.underlying40 HS0.out ?_)
 refine (event_any _ (e0C w1.heap.size) Ar.e0 w10 HX10.out Ar.e0_wok (by rw [Ar.line_e0]; decide)).mono ?_
 rintro r w11 ⟨rfl, hb11⟩
 rw [Ar.line_e0]
 have HB11 := hid (HB10.out.trans (hb11.mono HB10.out.size))
 have HK11 := hid (HK10.out.below hb11 HK10.out.lt)
 have HX11 := hid (HX10.out.below hb11)
 have HF11 := hid (HF10.out.below hb11 HF10.out.lt)
 have HE11 := hid (HE10.out.below hb11)
 have HG11 := hid (HG10.out.below hb11 HG10.out.lt)
 have HD11 := hid (HD10.out.below hb11)
 clear hb11
 go_wp2_with (first | (refine load_row_w (by rfl) 40 _ rfl (w1.heap.size + 1) rfl 40 (e0C w1.heap.size) (0, 0) _ (by rfl) HK11.out Tryz.underlying40 HS0.out ?_) | (refine load_row_w (by rfl) 40 _ rfl w3.heap.size rfl 40 cells (0, 0) _ (by rfl) HF11.out Tryz.underlying40 HS3.out ?_))
 refine (ev_same HX11.out HE11.out Ar.e0_wok).mono ?_
 rintro r w12 ⟨rfl, hb12⟩
 have HB12 := hid (HB11.out.trans (hb12.mono HB11.out.size))
 have HK12 := hid (HK11.out.below hb12 HK11.out.lt)
 have HX12 := hid (HX11.out.below hb12)
 have HF12 := hid (HF11.out.below hb12 HF11.out.lt)
 have HE12 := hid (HE11.out.below hb12)
 have HG12 := hid (HG11.out.below hb12 HG11.out.lt)
 have HD12 := hid (HD11.out.below hb12)
 clear hb12
 have hg0 := HG12.out.cell 0
 change _ = some (Value.string (bstr [33, 114, 58, 97])) at hg0
 have hg2 := HG12.out.cell 2
 change _ = some (Value.slice AR 1 cR) at hg2
 have HTD := hid (sameT13_any A8 (some ⟨w12.heap.size, 0, none⟩) c8 4 Ar.td (w12.alloc (.cells (strL Ar.td).toArray 9)) (HD12.out.below ((Below.refl _ _).alloc (Nat.le_refl _) _)) (Rd.litS w12 Ar.td) (by decide))
 go_wp2_with fail
 refine HTD.out.mono ?_
 rintro r w13 ⟨rfl, q13, rfl⟩
 have HB13 : Hid (Below w.heap.size w ((w12.alloc (.cells (strL Ar.td).toArray 9)).drewN q13)) := hid (below_drewN (HB12.out.alloc HB12.out.size _) q13)
 generalize hw13 : (w12.alloc (.cells (strL Ar.td).toArray 9)).drewN q13 = w13 at *
 have hln := lines_any ⟨#[]⟩ w13 (by decide) (HRY.out.below HB13.out)
 rw [show Ar.lines (⟨#[]⟩ : ByteArray).data.toList = [[]] from rfl, show ([[]] : List (List UInt8)).length = 1 from rfl] at hln
 have HLN := hid hln
 clear hln hw13
 go_wp2_with fail
 refine HLN.out.mono ?_
 rintro r w14 ⟨rfl, rfl⟩
 have HB14 : Hid (Below w.heap.size w (w13.alloc (.cells (strL [[]]).toArray 9))) := hid (HB13.out.alloc HB13.out.size _)
 generalize hw14 : w13.alloc (.cells (strL [[]]).toArray 9) = w14 at *
 have HS1 := hid (sums_any ⟨#[101, 118, 101, 110, 116, 32, 105, 100, 61, 53, 10]⟩ w14 (by decide) (HRY.out.below HB14.out))
 clear hw14
 obtain ⟨N, hN⟩ : ∃ N : Nat, sums (Ar.lines (⟨#[101, 118, 101, 110, 116, 32, 105, 100, 61, 53, 10]⟩ : ByteArray).data.toList) = N := ⟨_, rfl⟩
 rw [hN] at HS1
 go_wp2_with fail
 refine HS1.out.mono ?_
 rintro r w15 ⟨rfl, hb15⟩
 have HB15 := hid (HB14.out.trans (hb15.mono HB14.out.size))
 have HS2 := hid (rsums_any ⟨#[101, 118, 101, 110, 116, 32, 105, 100, 61, 53, 10]⟩ w15 (by decide))
 rw [hN] at HS2
 have hNN : ((N : Int) == (N : Int)) = true := beq_self_eq_true _
 clear hb15 hN
 go_wp2_with fail
 refine HS2.out.mono ?_
 rintro r w16 ⟨rfl, hb16⟩
 have HB16 := hid (HB15.out.trans (hb16.mono HB15.out.size))
 clear hb16
 go_wp2_with fail
 go_ret
 exact ⟨rfl, HB16.out⟩
end Go.Proofs.YteadlcncnhbmjaaGreatDoor
