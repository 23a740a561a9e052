/- The texts Rm1, Re3, Lr, Ro1 of this proof, one behind the other. -/
import Derived.Test.YteadlcncnhbmjaaGreatDoorMfc
import Derived.Test.YteadlcncnhbmjaaGreatDoorMap
import Derived.Test.YteadlcncnhbmjaaGreatDoorMat
import Derived.Test.YteadlcncnhbmjaaGreatDoorMdb
set_option linter.unusedSimpArgs false
set_option maxHeartbeats 16000000
set_option maxRecDepth 100000
set_option linter.unusedVariables false
/- The text Rm1. -/
namespace Go.Proofs.YteadlcncnhbmjaaGreatDoor
open Go.RowKit Go.Lib
set_option linter.unusedVariables false
set_option linter.unusedSimpArgs false
theorem after_len (w s : List UInt8) : (Ar.after w s).length ≤ w.length + 1 + s.length := by
 unfold Ar.after
 split
 ·omega
 ·rw [List.length_append, List.length_cons]; omega
theorem light_line (r : Ar.Rm) (hk : r.Ok) (hl : Light r) : ∀ l ∈ Ar.rmLines r, l.length ≤ 95000 := by
 obtain ⟨hE, hW, ⟨n1, n2, n3, n4, n5, n6, n7, n8⟩, hS, hC, hT⟩ := hl
 intro l h
 unfold Ar.rmLines at h
 simp only [List.mem_append, List.mem_map, List.mem_singleton] at h
 rcases h with ((((((rfl | ⟨x, hx, rfl⟩) | ⟨x, hx, rfl⟩) | ⟨x, hx, rfl⟩) | h) | ⟨x, hx, rfl⟩) | ⟨x, hx, rfl⟩) | ⟨x, hx, rfl⟩
 ·have h1 := Ar.quote_len r.id
  have h2 := itoa_len _ hk.next
  unfold Ar.headLine
  split
  ·simp only [List.length_append, Ar.headW, List.length_cons, List.length_nil]; omega
  ·simp only [List.length_append, Ar.headW, Ar.nextW, List.length_cons, List.length_nil]; omega
 ·have h1 := after_len Ar.evN (Ar.line x)
  have h2 := (hE x hx).2
  have h3 : Ar.evN.length = 5 := rfl
  omega
 ·obtain ⟨k1, k2, k3⟩ := hk.rows x hx
  have h1 := itoa_len _ k1
  have h2 := itoa_len _ k2
  have h3 := itoa_len _ k3
  unfold Ar.rowLine
  split <;> simp only [List.length_append, Ar.rowW, Ar.goneW, List.length_cons, List.length_nil] <;> omega
 ·have h1 := after_len Ar.waitN (Ar.line x)
  have h2 := (hW x hx).2
  have h3 : Ar.waitN.length = 4 := rfl
  omega
 ·split at h
  ·cases h
  ·obtain rfl := List.mem_singleton.1 h
   have h1 := Ar.join_le [44] 20 (r.heads.map Ar.itoa) (fun y hy => by
    obtain ⟨n, hn, rfl⟩ := List.mem_map.1 hy
    exact itoa_len n (hk.heads n hn))
   rw [List.length_map, List.length_singleton] at h1
   have h2 := Nat.mul_le_mul_right (20 + 1) n5
   unfold Ar.headsLine
   simp only [List.length_append, Ar.headsW, List.length_cons, List.length_nil]
   omega
 ·obtain ⟨k1, k2⟩ := hk.state x hx
  have h1 := itoa_len _ k1
  have h2 := itoa_len _ k2
  have h3 := Ar.quote_len x.2.1
  have h4 := hS x hx
  unfold Ar.entryLine
  simp only [List.length_append, Ar.entryW, List.length_cons, List.length_nil]
  omega
 ·obtain ⟨k1, k2, k3⟩ := hk.receipts x hx
  have h1 := itoa_len _ k1
  have h2 := itoa_len _ k2
  have h5 := itoa_len _ k3
  have h3 := Ar.quote_len x.1
  have h4 := hC x hx
  unfold Ar.receiptLine
  simp only [List.length_append, Ar.receiptW, List.length_cons, List.length_nil]
  omega
 ·have h1 := itoa_len _ (hk.typing x hx)
  have h3 := Ar.quote_len x.1
  have h4 := hT x hx
  unfold Ar.typingLine
  simp only [List.length_append, Ar.typingW, List.length_cons, List.length_nil]
  omega
theorem light_num (r : Ar.Rm) (hl : Light r) : (Ar.rmLines r).length ≤ 140 := by
 obtain ⟨n1, n2, n3, n4, n5, n6, n7, n8⟩ := hl.n
 unfold Ar.rmLines
 have h : (if r.heads = [] then [] else [Ar.headsLine r.heads]).length ≤ 1 := by split <;> simp
 simp only [List.length_append, List.length_map, List.length_singleton]
 omega
theorem light_fine (r : Ar.Rm) (hk : r.Ok) (hl : Light r) : Fine r := by
 have hlen := light_line r hk hl
 have hnum := light_num r hl
 obtain ⟨n1, n2, n3, n4, n5, n6, n7, n8⟩ := hl.n
 have h1 := Ar.join_le [44] 20 (r.heads.map Ar.itoa) (fun y hy => by
  obtain ⟨n, hn, rfl⟩ := List.mem_map.1 hy
  exact itoa_len n (hk.heads n hn))
 rw [List.length_map, List.length_singleton] at h1
 have h2 := Nat.mul_le_mul_right (20 + 1) n5
 have h3 := Ar.join_le [10] 95000 (Ar.rmLines r) hlen
 rw [List.length_singleton] at h3
 have h4 := Nat.mul_le_mul_right (95000 + 1) hnum
 exact ⟨hk.next, by omega, fun e he => ⟨(hl.ev e he).1, Nat.le_trans (hl.ev e he).2 (by omega)⟩, hk.rows, fun e he => ⟨(hl.wait e he).1, Nat.le_trans (hl.wait e he).2 (by omega)⟩, hk.heads,
  fun x hx => ⟨(hk.state x hx).1, Nat.le_trans (hl.st x hx) (by omega), (hk.state x hx).2⟩, fun x hx => ⟨Nat.le_trans (hl.rc x hx) (by omega), hk.receipts x hx⟩, fun x hx => ⟨Nat.le_trans (hl.ty x hx) (by omega), hk.typing x hx⟩, by omega, by omega, by omega, by omega⟩
theorem light_lines (r : Ar.Rm) (hk : r.Ok) (hl : Light r) : ∀ l ∈ Ar.lines (Ar.rmText r), l.length ≤ 100000 := by
 intro l h
 rw [Ar.lines_rm r] at h
 rcases List.mem_append.1 h with h | h
 ·exact Nat.le_trans (light_line r hk hl l h) (by omega)
 ·rw [List.mem_singleton.1 h]; exact Nat.zero_le _
end Go.Proofs.YteadlcncnhbmjaaGreatDoor
/- The text Re3. -/
namespace Go.Proofs.YteadlcncnhbmjaaGreatDoor
open Go.RowKit Go.Lib
set_option linter.unusedVariables false
theorem rwrite58_any (r : Ar.Rm) (X : Array Value) (w : World) (hx : RmV w r X) (hf : Fine r) : Calls Tryz.prog 27 #[.agg X] w fun e w' => WrA r e ∧ Below w.heap.size w w' := by
 have hnum : 1 + r.events.length + r.rows.length + r.waiting.length + (if r.heads = [] then [] else [Ar.headsLine r.heads]).length + r.state.length + r.receipts.length + r.typing.length ≤ 1000000 := by
  have h := hf.num
  rw [show Ar.rmLines r = [Ar.headLine r.id r.next] ++ r.events.map (fun e => Ar.after Ar.evN (Ar.line e)) ++ r.rows.map Ar.rowLine ++ r.waiting.map (fun e => Ar.after Ar.waitN (Ar.line e)) ++ (if r.heads = [] then [] else [Ar.headsLine r.heads]) ++ r.state.map Ar.entryLine ++ r.receipts.map Ar.receiptLine ++ r.typing.map Ar.typingLine from rfl] at h
  simp only [List.length_append, List.length_map, List.length_singleton] at h
  omega
 have hh : r.heads.length ≤ 1000000 := by
  have h1 := Ar.join_len Ar.itoa Ar.itoa_ne r.heads
  have h2 := hf.hn
  omega
 have hn : r.events.length ≤ 1000000 ∧ r.rows.length ≤ 1000000 ∧ r.waiting.length ≤ 1000000 ∧ r.heads.length ≤ 1000000 ∧ r.state.length ≤ 1000000 ∧ r.receipts.length ≤ 1000000 ∧ r.typing.length ≤ 1000000 := by
  refine ⟨?_, ?_, ?_, hh, ?_, ?_, ?_⟩ <;> omega
 have hb1 := (Below.refl w.heap.size w).alloc (Nat.le_refl _) (.cells X 55)
 have hk1 : Blk (w.alloc (.cells X 55)) w.heap.size 55 X := Blk.new w 55 X
 have hX9 : X.size = 9 := by exact RmV.size hx
 have HX := hid (RmV.below hx hb1)
 have htl : (bstr (Ar.rmText r)).size ≤ 90000001 := by
  rw [bstr_size]
  unfold Ar.rmText
  rw [List.length_append]
  have := hf.tot
  simp only [List.length_cons, List.length_nil]
  omega
 have HTX := hid (rtext58_any r X _ HX.out hf hn)
 have HWR : Hid (Ar.write r = if 500000 < (bstr (Ar.rmText r)).size then none else some (Ar.rmText r)) := hid (by rw [bstr_size]; rfl)
 have HSZ : Hid ((Tryz.prog.info? 55).map (·.size) = some X.size) := hid (by rw [hX9]; exact size_room)
 generalize hw1 : w.alloc (.cells X 55) = w1 at *
 have HB1 := hid hb1
 clear hf hh hn hnum hx hX9 hb1
 generalize hT : bstr (Ar.rmText r) = T at *
 go_enter Tryz.func27, Tryz.ntmps27
 go_wp2_with ((refine wpList_load_row rfl 55 _ rfl w.heap.size rfl 55 X (0, 0) _ hk1 Tryz.underlying55 rfl HSZ.out ?_))
 refine HTX.out.mono ?_
 rintro e w2 ⟨rfl, hb2⟩
 have HB2 := hid (HB1.out.trans (hb2.mono HB1.out.size))
 clear hb2
 by_cases hbig : 500000 < T.size
 ·have hb1 : (500000 : Int) < (T.size : Int) := by omega
  have HNN : Hid (Ar.write r = none) := hid (by rw [HWR.out, if_pos hbig])
  go_wp2_with fail
  go_ret2
  exact ⟨.inr ⟨HNN.out, rfl⟩, HB2.out⟩
 ·have hb1 : decide ((500000 : Int) < (T.size : Int)) = false := decide_eq_false (by omega)
  have HNN : Hid (Ar.write r = some (Ar.rmText r)) := hid (by rw [HWR.out, if_neg hbig])
  clear hbig
  go_wp2_with fail
  go_ret2
  exact ⟨.inl ⟨_, HNN.out, by rw [hT]; rfl⟩, HB2.out⟩
end Go.Proofs.YteadlcncnhbmjaaGreatDoor
/- The text Lr. -/
namespace Go.Proofs.YteadlcncnhbmjaaGreatDoor
open Go.RowKit Go.Lib
set_option linter.unusedVariables false
set_option linter.unusedSimpArgs false
theorem write_rm (r : Ar.Rm) (X : Array Value) (w : World) (hx : RmV w r X) (hf : Fine r) : Calls Tryz.prog 26 #[.agg X] w fun e w' => WrA r e ∧ Below w.heap.size w w' := by
 obtain ⟨_, _, _, _, _, _, _, rfl, h⟩ := hx
 exact write_any r _ _ _ _ _ _ _ w h hf
abbrev zRm : Array Value := #[.string ⟨#[]⟩, nilS, nilS, nilS, nilS, nilS, .int .i64 0, nilS, nilS]
theorem rooms_law (r : Ar.Rm) (X : Array Value) (w : World) (hx : RmV w r X) (hk : r.Ok) (hR : Ready w) : Calls Tryz.prog 7 #[.agg X] w fun e w' => e = .returned (.bool true) ∧ Below w.heap.size w w' := by
 have HRY := hid hR
 have HLV : Hid (∀ W, Ready W → Calls Tryz.prog 13 #[] W fun e w' => e = .returned (.bool true) ∧ Below W.heap.size W w') := hid (fun W h => lives_any W h)
 have hb0 := (Below.refl w.heap.size w).alloc (Nat.le_refl _) (.cells X 55)
 have HB0 := hid hb0
 have HX0 : Hid (RmV (w.alloc (.cells X 55)) r X) := hid (hx.below hb0)
 have HK0 := hid (Blk.new w 55 X)
 have HSX : Hid ((Tryz.prog.info? 55).map (·.size) = some X.size) := hid (by rw [hx.size]; exact size_room)
 have HOK := hid hk
 clear hR hx hk hb0
 generalize hw0 : w.alloc (.cells X 55) = w0 at *
 go_enter Tryz.func7, Tryz.ntmps7
 go_wp2_with (refine wpList_load_row rfl 55 _ rfl w.heap.size rfl 55 X (0, 0) _ HK0.out Tryz.underlying55 rfl HSX.out ?_)
 refine (light_any r X w0 HX0.out).mono ?_
 rintro e w1 ⟨⟨b, rfl, hb⟩, hb1⟩
 have HB1 := hid (HB0.out.trans (hb1.mono HB0.out.size))
 have HX1 := hid (HX0.out.below hb1)
 have HK1 := hid (HK0.out.below hb1 HK0.out.lt)
 clear hb1
 cases b with
 | false =>
  clear hb
  go_wp2_with fail
  refine (HLV.out _ (HRY.out.below HB1.out)).mono ?_
  rintro e w2 ⟨rfl, hb2⟩
  have HB2 := hid (HB1.out.trans (hb2.mono HB1.out.size))
  clear hb2
  go_wp2_with fail
  go_ret
  exact ⟨rfl, HB2.out⟩
 | true =>
  have HL := hid (hb rfl)
  have HF := hid (light_fine r HOK.out HL.out)
  clear hb
  go_wp2_with (refine wpList_load_row rfl 55 _ rfl w.heap.size rfl 55 X (0, 0) _ HK1.out Tryz.underlying55 rfl HSX.out ?_)
  refine (write_rm r X w1 HX1.out HF.out).mono ?_
  rintro e w2 ⟨hwr, hb2⟩
  have HB2 := hid (HB1.out.trans (hb2.mono HB1.out.size))
  have HX2 := hid (HX1.out.below hb2)
  have HK2 := hid (HK1.out.below hb2 HK1.out.lt)
  clear hb2
  rcases hwr with ⟨t, ht, rfl⟩ | ⟨hn, rfl⟩
  ·have HT := hid ht
   have hts : t = Ar.rmText r ∧ t.length ≤ 500000 := by
    unfold Ar.write at ht
    split at ht
    ·cases ht
    ·injection ht with ht
     exact ⟨ht.symm, by rw [← ht]; omega⟩
   obtain ⟨htr, htl⟩ := hts
   have HRD := hid (fun W h => read_any (bstr t) W (by rw [bstr_size]; exact htl) (by rw [show (bstr t).data.toList = t from rfl, htr]; exact light_lines r HOK.out HL.out) h)
   have hee := beq_self_eq_true (bstr t).toList
   rw [show (bstr t).data.toList = t from rfl, htr, Ar.read_rm r HOK.out, ← htr] at HRD
   clear ht htr htl
   generalize hS : bstr t = S at *
   go_wp2_with (refine wpList_load_row rfl 55 _ rfl w.heap.size rfl 55 X (0, 0) _ HK2.out Tryz.underlying55 rfl HSX.out ?_)
   refine (rwrite58_any r X w2 HX2.out HF.out).mono ?_
   rintro e w3 ⟨hwr, hb3⟩
   have HB3 := hid (HB2.out.trans (hb3.mono HB2.out.size))
   have HX3 := hid (HX2.out.below hb3)
   have HK3 := hid (HK2.out.below hb3 HK2.out.lt)
   clear hb3
   have he : e = .returned (.tuple #[.string S, .int .i64 0]) := by
    rcases hwr with ⟨t', ht', rfl⟩ | ⟨hn', -⟩
    ·rw [HT.out] at ht'
     injection ht' with ht'
     rw [← ht', hS]
    ·rw [HT.out] at hn'
     cases hn'
   subst he
   clear hwr
   go_wp2_with fail
   refine (HRD.out _ (HRY.out.below HB3.out)).mono ?_
   rintro e w4 ⟨hrd, hb4⟩
   have HB4 := hid (HB3.out.trans (hb4.mono HB3.out.size))
   have HX4 := hid (HX3.out.below hb4)
   have HK4 := hid (HK3.out.below hb4 HK3.out.lt)
   clear hb4
   have hrd2 : ∃ cells, e = .returned (.tuple #[.agg cells, .int .i64 0, .int .i64 0]) ∧ RmV w4 r cells := by
    rcases hrd with ⟨y, cells, hy, h1, h2⟩ | ⟨n, hy, -⟩
    ·injection hy with hy
     subst hy
     exact ⟨cells, h1, h2⟩
    ·cases hy
   obtain ⟨cells, rfl, hxr⟩ := hrd2
   have HV4 := hid hxr
   have HSC : Hid ((Tryz.prog.info? 55).map (·.size) = some cells.size) := hid (by rw [hxr.size]; exact size_room)
   have HON := hid hxr.one
   have HZC : Hid (zRm.size = cells.size) := hid (by rw [hxr.size]; rfl)
   clear hrd hxr
   have HNN : Hid (r.events.length ≤ 1000000 ∧ r.rows.length ≤ 1000000 ∧ r.waiting.length ≤ 1000000 ∧ r.heads.length ≤ 1000000 ∧ r.state.length ≤ 1000000 ∧ r.receipts.length ≤ 1000000 ∧ r.typing.length ≤ 1000000) := hid (by
    obtain ⟨n1, n2, n3, n4, n5, n6, n7, n8⟩ := HL.out.n
    refine ⟨?_, ?_, ?_, ?_, ?_, ?_, ?_⟩ <;> omega)
   go_wp2_with (first
    | ((with_reducible refine wpList_store_row' rfl 55 _ _ rfl w4.heap.size cells ?_ ?_ 55 _ (Blk.new w4 55 _) HSC.out ?_ HON.out ?_); rfl; rfl; exact HZC.out; intro w5 hk5 hs5 hbl5; have hz5 := ((Below.refl w4.heap.size w4).alloc (Nat.le_refl _) (.cells zRm 55)).trans (hbl5 w4.heap.size (Nat.le_refl _)); have HB5 := hid (HB4.out.trans (hz5.mono HB4.out.size)); have HX5 := hid (HX4.out.below hz5); have HV5 := hid (HV4.out.below hz5); have HK5 := hid (HK4.out.below hz5 HK4.out.lt); have HF5 := hid hk5; clear hk5 hbl5 hz5 hs5)
    | (refine load_row_w (by rfl) 55 _ rfl w4.heap.size rfl 55 cells (0, 0) _ (by rfl) HF5.out Tryz.underlying55 HSC.out ?_)
    | (refine load_row_w (by rfl) 55 _ rfl w.heap.size rfl 55 X (0, 0) _ (by rfl) HK5.out Tryz.underlying55 HSX.out ?_))
   refine (same24_any r cells X w5 HV5.out HX5.out (fun e he => (HL.out.ev e he).1) (fun e he => (HL.out.wait e he).1) HNN.out).mono ?_
   rintro e w6 ⟨rfl, hb6⟩
   have HB6 := hid (HB5.out.trans (hb6.mono HB5.out.size))
   clear hb6
   go_wp2_with fail
   refine (HLV.out _ (HRY.out.below HB6.out)).mono ?_
   rintro e w7 ⟨rfl, hb7⟩
   have HB7 := hid (HB6.out.trans (hb7.mono HB6.out.size))
   clear hb7
   go_wp2_with fail
   go_ret
   exact ⟨rfl, HB7.out⟩
  ·have HN := hid hn
   clear hn
   have HRD := hid (fun W h => read_any ⟨#[]⟩ W (by decide) (fun l hl => by
    rw [show Ar.lines (⟨#[]⟩ : ByteArray).data.toList = [[]] from rfl] at hl
    rw [List.mem_singleton.1 hl]; exact Nat.zero_le _) h)
   rw [show Ar.read (⟨#[]⟩ : ByteArray).data.toList = .inr 1 from rfl] at HRD
   go_wp2_with (refine wpList_load_row rfl 55 _ rfl w.heap.size rfl 55 X (0, 0) _ HK2.out Tryz.underlying55 rfl HSX.out ?_)
   refine (rwrite58_any r X w2 HX2.out HF.out).mono ?_
   rintro e w3 ⟨hwr, hb3⟩
   have HB3 := hid (HB2.out.trans (hb3.mono HB2.out.size))
   clear hb3
   have he : e = .returned (.tuple #[.string ⟨#[]⟩, .int .i64 7]) := by
    rcases hwr with ⟨t', ht', -⟩ | ⟨-, rfl⟩
    ·rw [HN.out] at ht'; cases ht'
    ·rfl
   subst he
   clear hwr
   go_wp2_with fail
   refine (HRD.out _ (HRY.out.below HB3.out)).mono ?_
   rintro e w4 ⟨hrd, hb4⟩
   have HB4 := hid (HB3.out.trans (hb4.mono HB3.out.size))
   clear hb4
   have hrd2 : ∃ (n : Nat) (cells : Array Value), e = .returned (.tuple #[.agg cells, .int .i64 n, .int .i64 10]) ∧ cells.size = 9 ∧ cells.all (·.oneCell') = true := by
    rcases hrd with ⟨y, cells, hy, -⟩ | ⟨n, hy, h1⟩
    ·cases hy
    ·exact ⟨n, _, h1, rfl, one_room⟩
   obtain ⟨n, cells, rfl, hc9, hone⟩ := hrd2
   have HSC : Hid ((Tryz.prog.info? 55).map (·.size) = some cells.size) := hid (by rw [hc9]; exact size_room)
   have HON := hid hone
   have HZC : Hid (zRm.size = cells.size) := hid (by rw [hc9]; rfl)
   clear hrd hc9 hone
   go_wp2_with ((with_reducible refine wpList_store_row' rfl 55 _ _ rfl w4.heap.size cells ?_ ?_ 55 _ (Blk.new w4 55 _) HSC.out ?_ HON.out ?_); rfl; rfl; exact HZC.out; intro w5 hk5 hs5 hbl5; have hz5 := ((Below.refl w4.heap.size w4).alloc (Nat.le_refl _) (.cells zRm 55)).trans (hbl5 w4.heap.size (Nat.le_refl _)); have HB5 := hid (HB4.out.trans (hz5.mono HB4.out.size)); clear hk5 hbl5 hz5 hs5)
   refine (HLV.out _ (HRY.out.below HB5.out)).mono ?_
   rintro e w6 ⟨rfl, hb6⟩
   have HB6 := hid (HB5.out.trans (hb6.mono HB5.out.size))
   clear hb6
   go_wp2_with fail
   go_ret
   exact ⟨rfl, HB6.out⟩
end Go.Proofs.YteadlcncnhbmjaaGreatDoor
/- The text Ro1. -/
namespace Go.Proofs.YteadlcncnhbmjaaGreatDoor
open Go.ChangeShapes Go.WideShapes Go.Deep Go.RowKit Go.Lib
set_option linter.unusedVariables false
set_option linter.unusedSimpArgs false
theorem rd_lt {w : World} {a : Addr} {n : Nat} {vs : List Value} (h : Rd w (some a) n vs) (hn : 0 < n) : a.block < w.heap.size := by
 obtain ⟨v, hv⟩ : ∃ v, vs[0]? = some v := ⟨_, List.getElem?_eq_getElem (by rw [h.1]; exact hn)⟩
 obtain ⟨b, off, e, hc⟩ := h.2 0 v hv
 injection e with e
 subst e
 exact block_lt hc
theorem sl_nil (w : World) (sz : Nat) : SlB w w.heap.size (.slice none 0 0) 0 sz [] := ⟨none, 0, rfl, ⟨by rw [Nat.zero_mul]; rfl, fun j v hj => by cases hj⟩, fun hn => absurd hn (Nat.lt_irrefl 0)⟩
section
variable {H : Type} {enc : TypeId × Value → H} {w : World} {base fuel : Nat} {held : Bool} {cs : List Value} {x : DataW H × List MemPlace}
theorem open_ints2 (h : Tr enc w base held fuel 29 cs x) : ∃ c l, cs = [c] ∧ SlB w w.heap.size c l.length 1 (intL l) ∧ ∀ n ∈ l, Ar.inInt n := by
 obtain ⟨c, l, h1, ⟨A, cap, h2, h3, -⟩, h4⟩ := open_ints h
 refine ⟨c, l, h1, ⟨A, cap, h2, h3, fun hn a ha => ?_⟩, h4⟩
 subst ha
 exact rd_lt h3 (by omega)
theorem open_rowC (h : Tr enc w base held fuel 49 cs x) : ∃ (c : Value) (l : List (Int × Int × Int × Bool)), cs = [c] ∧ SlB w w.heap.size c l.length 4 (l.flatMap rowC) ∧ ∀ x ∈ l, Ar.inInt x.1 ∧ Ar.inInt x.2.1 ∧ Ar.inInt x.2.2.1 := by
 rcases open_slice Tryz.underlying49 h with ⟨h0, _⟩ | ⟨a, len, cap, m, n, D, Pl, hcs, _, hl, _, hm, _, hi⟩
 ·exact ⟨_, [], h0, sl_nil w 4, fun n hn => by cases hn⟩
 ·obtain ⟨l, h1, h2, h3⟩ := row_of rowC 4 (fun _ => rfl) (by omega) (fun x => Ar.inInt x.1 ∧ Ar.inInt x.2.1 ∧ Ar.inInt x.2.2.1) w a len (fun i hi' => by
   obtain ⟨cs', h1, h2⟩ := hi i (by rw [hm]; simp; omega)
   have hC : Tryz.prog.cellsOf 114 = 4 := by kernel_rfl
   rw [hC] at h1
   obtain ⟨_, hcl, hat⟩ := World.cells?_some h1
   obtain ⟨_, _, g0⟩ := part Tryz.underlying114 h2 0 _ rfl 0 1 rfl (by kernel_rfl)
   obtain ⟨_, _, g1⟩ := part Tryz.underlying114 h2 1 _ rfl 1 1 rfl (by kernel_rfl)
   obtain ⟨_, _, g2⟩ := part Tryz.underlying114 h2 2 _ rfl 2 1 rfl (by kernel_rfl)
   obtain ⟨_, _, g3⟩ := part Tryz.underlying114 h2 3 _ rfl 3 1 rfl (by kernel_rfl)
   obtain ⟨c0, v0, k0, e0, i0⟩ := part_num Tryz.underlying3 g0
   obtain ⟨c1, v1, k1, e1, i1⟩ := part_num Tryz.underlying3 g1
   obtain ⟨c2, v2, k2, e2, i2⟩ := part_num Tryz.underlying112 g2
   obtain ⟨c3, v3, k3, e3⟩ := part_flg g3
   have e0' : c0 = .int .i64 v0 := e0
   have e1' : c1 = .int .i64 v1 := e1
   have e2' : c2 = .int .i64 v2 := e2
   have e3' : c3 = .bool v3 := e3
   subst e0' e1' e2' e3'
   refine ⟨(v0, v1, v2, v3), ⟨i0, i1, i2⟩, fun j v hj => ?_⟩
   rcases j with _ | _ | _ | _ | j
   ·injection hj with hj
    have h5 := (hat 0 (by omega)).trans k0
    rw [Go.Deep.add_add] at h5
    rw [← hj]
    exact h5
   ·injection hj with hj
    have h5 := (hat 1 (by omega)).trans k1
    rw [Go.Deep.add_add] at h5
    rw [← hj]
    exact h5
   ·injection hj with hj
    have h5 := (hat 2 (by omega)).trans k2
    rw [Go.Deep.add_add] at h5
    rw [← hj]
    exact h5
   ·injection hj with hj
    have h5 := (hat 3 (by omega)).trans k3
    rw [Go.Deep.add_add] at h5
    rw [← hj]
    exact h5
   ·simp [rowC] at hj)
  exact ⟨_, l, hcs, ⟨some a, cap, by rw [h1], by rw [h1]; exact h3, fun hn a' ha => by injection ha with ha; subst ha; exact rd_lt h3 (by omega)⟩, h2⟩
theorem open_entC (h : Tr enc w base held fuel 51 cs x) : ∃ (c : Value) (l : List (Int × List UInt8 × Int)), cs = [c] ∧ SlB w w.heap.size c l.length 3 (l.flatMap entC) ∧ ∀ x ∈ l, Ar.inInt x.1 ∧ Ar.inInt x.2.2 := by
 rcases open_slice Tryz.underlying51 h with ⟨h0, _⟩ | ⟨a, len, cap, m, n, D, Pl, hcs, _, hl, _, hm, _, hi⟩
 ·exact ⟨_, [], h0, sl_nil w 3, fun n hn => by cases hn⟩
 ·obtain ⟨l, h1, h2, h3⟩ := row_of entC 3 (fun _ => rfl) (by omega) (fun x => Ar.inInt x.1 ∧ Ar.inInt x.2.2) w a len (fun i hi' => by
   obtain ⟨cs', h1, h2⟩ := hi i (by rw [hm]; simp; omega)
   have hC : Tryz.prog.cellsOf 103 = 3 := by kernel_rfl
   rw [hC] at h1
   obtain ⟨_, hcl, hat⟩ := World.cells?_some h1
   obtain ⟨_, _, g0⟩ := part Tryz.underlying103 h2 0 _ rfl 0 1 rfl (by kernel_rfl)
   obtain ⟨_, _, g1⟩ := part Tryz.underlying103 h2 1 _ rfl 1 1 rfl (by kernel_rfl)
   obtain ⟨_, _, g2⟩ := part Tryz.underlying103 h2 2 _ rfl 2 1 rfl (by kernel_rfl)
   obtain ⟨c0, v0, k0, e0, i0⟩ := part_num Tryz.underlying28 g0
   obtain ⟨c1, v1, k1, e1⟩ := part_txt g1
   obtain ⟨c2, v2, k2, e2, i2⟩ := part_num Tryz.underlying3 g2
   have e0' : c0 = .int .i64 v0 := e0
   have e1' : c1 = .string (bstr v1) := e1
   have e2' : c2 = .int .i64 v2 := e2
   subst e0' e1' e2'
   refine ⟨(v0, v1, v2), ⟨i0, i2⟩, fun j v hj => ?_⟩
   rcases j with _ | _ | _ | j
   ·injection hj with hj
    have h5 := (hat 0 (by omega)).trans k0
    rw [Go.Deep.add_add] at h5
    rw [← hj]
    exact h5
   ·injection hj with hj
    have h5 := (hat 1 (by omega)).trans k1
    rw [Go.Deep.add_add] at h5
    rw [← hj]
    exact h5
   ·injection hj with hj
    have h5 := (hat 2 (by omega)).trans k2
    rw [Go.Deep.add_add] at h5
    rw [← hj]
    exact h5
   ·simp [entC] at hj)
  exact ⟨_, l, hcs, ⟨some a, cap, by rw [h1], by rw [h1]; exact h3, fun hn a' ha => by injection ha with ha; subst ha; exact rd_lt h3 (by omega)⟩, h2⟩
theorem open_recC (h : Tr enc w base held fuel 52 cs x) : ∃ (c : Value) (l : List (List UInt8 × Int × Int × Int)), cs = [c] ∧ SlB w w.heap.size c l.length 4 (l.flatMap recC) ∧ ∀ x ∈ l, Ar.inInt x.2.1 ∧ Ar.inInt x.2.2.1 ∧ Ar.inInt x.2.2.2 := by
 rcases open_slice Tryz.underlying52 h with ⟨h0, _⟩ | ⟨a, len, cap, m, n, D, Pl, hcs, _, hl, _, hm, _, hi⟩
 ·exact ⟨_, [], h0, sl_nil w 4, fun n hn => by cases hn⟩
 ·obtain ⟨l, h1, h2, h3⟩ := row_of recC 4 (fun _ => rfl) (by omega) (fun x => Ar.inInt x.2.1 ∧ Ar.inInt x.2.2.1 ∧ Ar.inInt x.2.2.2) w a len (fun i hi' => by
   obtain ⟨cs', h1, h2⟩ := hi i (by rw [hm]; simp; omega)
   have hC : Tryz.prog.cellsOf 105 = 4 := by kernel_rfl
   rw [hC] at h1
   obtain ⟨_, hcl, hat⟩ := World.cells?_some h1
   obtain ⟨_, _, g0⟩ := part Tryz.underlying105 h2 0 _ rfl 0 1 rfl (by kernel_rfl)
   obtain ⟨_, _, g1⟩ := part Tryz.underlying105 h2 1 _ rfl 1 1 rfl (by kernel_rfl)
   obtain ⟨_, _, g2⟩ := part Tryz.underlying105 h2 2 _ rfl 2 1 rfl (by kernel_rfl)
   obtain ⟨_, _, g3⟩ := part Tryz.underlying105 h2 3 _ rfl 3 1 rfl (by kernel_rfl)
   obtain ⟨c0, v0, k0, e0⟩ := part_txt g0
   obtain ⟨c1, v1, k1, e1, i1⟩ := part_num Tryz.underlying3 g1
   obtain ⟨c2, v2, k2, e2, i2⟩ := part_num Tryz.underlying3 g2
   obtain ⟨c3, v3, k3, e3, i3⟩ := part_num Tryz.underlying3 g3
   have e0' : c0 = .string (bstr v0) := e0
   have e1' : c1 = .int .i64 v1 := e1
   have e2' : c2 = .int .i64 v2 := e2
   have e3' : c3 = .int .i64 v3 := e3
   subst e0' e1' e2' e3'
   refine ⟨(v0, v1, v2, v3), ⟨i1, i2, i3⟩, fun j v hj => ?_⟩
   rcases j with _ | _ | _ | _ | j
   ·injection hj with hj
    have h5 := (hat 0 (by omega)).trans k0
    rw [Go.Deep.add_add] at h5
    rw [← hj]
    exact h5
   ·injection hj with hj
    have h5 := (hat 1 (by omega)).trans k1
    rw [Go.Deep.add_add] at h5
    rw [← hj]
    exact h5
   ·injection hj with hj
    have h5 := (hat 2 (by omega)).trans k2
    rw [Go.Deep.add_add] at h5
    rw [← hj]
    exact h5
   ·injection hj with hj
    have h5 := (hat 3 (by omega)).trans k3
    rw [Go.Deep.add_add] at h5
    rw [← hj]
    exact h5
   ·simp [recC] at hj)
  exact ⟨_, l, hcs, ⟨some a, cap, by rw [h1], by rw [h1]; exact h3, fun hn a' ha => by injection ha with ha; subst ha; exact rd_lt h3 (by omega)⟩, h2⟩
theorem open_typC (h : Tr enc w base held fuel 53 cs x) : ∃ (c : Value) (l : List (List UInt8 × Int)), cs = [c] ∧ SlB w w.heap.size c l.length 2 (l.flatMap typC) ∧ ∀ x ∈ l, Ar.inInt x.2 := by
 rcases open_slice Tryz.underlying53 h with ⟨h0, _⟩ | ⟨a, len, cap, m, n, D, Pl, hcs, _, hl, _, hm, _, hi⟩
 ·exact ⟨_, [], h0, sl_nil w 2, fun n hn => by cases hn⟩
 ·obtain ⟨l, h1, h2, h3⟩ := row_of typC 2 (fun _ => rfl) (by omega) (fun x => Ar.inInt x.2) w a len (fun i hi' => by
   obtain ⟨cs', h1, h2⟩ := hi i (by rw [hm]; simp; omega)
   have hC : Tryz.prog.cellsOf 107 = 2 := by kernel_rfl
   rw [hC] at h1
   obtain ⟨_, hcl, hat⟩ := World.cells?_some h1
   obtain ⟨_, _, g0⟩ := part Tryz.underlying107 h2 0 _ rfl 0 1 rfl (by kernel_rfl)
   obtain ⟨_, _, g1⟩ := part Tryz.underlying107 h2 1 _ rfl 1 1 rfl (by kernel_rfl)
   obtain ⟨c0, v0, k0, e0⟩ := part_txt g0
   obtain ⟨c1, v1, k1, e1, i1⟩ := part_num Tryz.underlying3 g1
   have e0' : c0 = .string (bstr v0) := e0
   have e1' : c1 = .int .i64 v1 := e1
   subst e0' e1'
   refine ⟨(v0, v1), i1, fun j v hj => ?_⟩
   rcases j with _ | _ | j
   ·injection hj with hj
    have h5 := (hat 0 (by omega)).trans k0
    rw [Go.Deep.add_add] at h5
    rw [← hj]
    exact h5
   ·injection hj with hj
    have h5 := (hat 1 (by omega)).trans k1
    rw [Go.Deep.add_add] at h5
    rw [← hj]
    exact h5
   ·simp [typC] at hj)
  exact ⟨_, l, hcs, ⟨some a, cap, by rw [h1], by rw [h1]; exact h3, fun hn a' ha => by injection ha with ha; subst ha; exact rd_lt h3 (by omega)⟩, h2⟩
theorem open_evs (h : Tr enc w base held fuel 48 cs x) : ∃ (c : Value) (L : List (List Ar.FV)), cs = [c] ∧ ∃ A cap, c = .slice A L.length cap ∧ EvRow w w.heap.size A L := by
 rcases open_slice Tryz.underlying48 h with ⟨h0, _⟩ | ⟨a, len, cap, m, n, D, Pl, hcs, _, hl, _, hm, _, hi⟩
 ·exact ⟨_, [], h0, none, 0, rfl, fun i e hi => by cases hi⟩
 ·have hC : Tryz.prog.cellsOf 40 = 29 := by kernel_rfl
  rw [hC] at hi
  obtain ⟨L, h1, h2⟩ := list_of (p := fun i (e : List Ar.FV) => ∃ cs : List Value, (∀ j v, cs[j]? = some v → w.cell? ((a.add (i * 29)).add j) = some v) ∧ cs.length = 29 ∧ EvOf okB w cs.toArray e) len (fun i hi' => by
   obtain ⟨cs', h1, h2⟩ := hi i (by rw [hm]; simp; omega)
   obtain ⟨_, hcl, hat⟩ := World.cells?_some h1
   obtain ⟨e, he⟩ := ev_open h2 hcl
   exact ⟨e, cs', fun j v hj => (hat j (by rw [← hcl]; exact (List.getElem?_eq_some_iff.1 hj).1)).trans hj, hcl, he⟩)
  refine ⟨_, L, hcs, some a, cap, by rw [h1], fun i e hie => ?_⟩
  obtain ⟨cs', g1, g2, g3⟩ := h2 i e hie
  have hL0 : 0 < L.length := by have := (List.getElem?_eq_some_iff.1 hie).1; omega
  obtain ⟨cs0, q1, q2, -⟩ := h2 0 L[0] (List.getElem?_eq_getElem hL0)
  obtain ⟨v0, hv0⟩ : ∃ v, cs0[0]? = some v := ⟨_, List.getElem?_eq_getElem (by rw [q2]; decide)⟩
  have h00 := q1 0 v0 hv0
  rw [Nat.zero_mul, Go.Deep.add_add] at h00
  obtain ⟨v, hv⟩ : ∃ v, cs'[0]? = some v := ⟨_, List.getElem?_eq_getElem (by rw [g2]; decide)⟩
  have hc := g1 0 v hv
  rw [Go.Deep.add_add] at hc
  obtain ⟨b, off, rfl, hc2⟩ := spot_none h00 hc
  refine ⟨b, off, cs', rfl, block_lt hc2, fun j v hj => ?_, g2, g3.keep fun g _ hg => ⟨hg, rfl⟩⟩
  have h5 := g1 j v hj
  rw [Go.Deep.add_add, Addr.add_mid, ← Nat.add_assoc] at h5
  exact h5
theorem EvRow.fits {w : World} {base : Nat} {A : Option Addr} {L : List (List Ar.FV)} (h : EvRow w base A L) : ∀ e ∈ L, Ar.Fits Ar.NK e := by
 intro e he
 obtain ⟨i, hi⟩ := List.mem_iff_getElem?.1 he
 obtain ⟨_, _, _, _, _, _, _, h5⟩ := h i e hi
 exact h5.fits
theorem room_open (h : Tr enc w base held fuel 55 cs x) (hl : cs.length = 9) : ∃ r, RmV w r cs.toArray ∧ r.Ok := by
 obtain ⟨_, _, g0⟩ := part Tryz.underlying55 h 0 _ rfl 0 1 rfl (by kernel_rfl)
 obtain ⟨c0, v0, k0, e0⟩ := part_txt g0
 obtain ⟨_, _, g1⟩ := part Tryz.underlying55 h 1 _ rfl 1 1 rfl (by kernel_rfl)
 obtain ⟨c1, v1, k1, e1⟩ := open_evs g1
 replace k1 := take_one k1
 obtain ⟨_, _, g2⟩ := part Tryz.underlying55 h 2 _ rfl 2 1 rfl (by kernel_rfl)
 obtain ⟨c2, v2, k2, e2, i2⟩ := open_rowC g2
 replace k2 := take_one k2
 obtain ⟨_, _, g3⟩ := part Tryz.underlying55 h 3 _ rfl 3 1 rfl (by kernel_rfl)
 obtain ⟨c3, v3, k3, e3⟩ := open_evs g3
 replace k3 := take_one k3
 obtain ⟨_, _, g4⟩ := part Tryz.underlying55 h 4 _ rfl 4 1 rfl (by kernel_rfl)
 obtain ⟨c4, v4, k4, e4, i4⟩ := open_ints2 g4
 replace k4 := take_one k4
 obtain ⟨_, _, g5⟩ := part Tryz.underlying55 h 5 _ rfl 5 1 rfl (by kernel_rfl)
 obtain ⟨c5, v5, k5, e5, i5⟩ := open_entC g5
 replace k5 := take_one k5
 obtain ⟨_, _, g6⟩ := part Tryz.underlying55 h 6 _ rfl 6 1 rfl (by kernel_rfl)
 obtain ⟨c6, v6, k6, e6, i6⟩ := part_num Tryz.underlying3 g6
 obtain ⟨_, _, g7⟩ := part Tryz.underlying55 h 7 _ rfl 7 1 rfl (by kernel_rfl)
 obtain ⟨c7, v7, k7, e7, i7⟩ := open_recC g7
 replace k7 := take_one k7
 obtain ⟨_, _, g8⟩ := part Tryz.underlying55 h 8 _ rfl 8 1 rfl (by kernel_rfl)
 obtain ⟨c8, v8, k8, e8, i8⟩ := open_typC g8
 replace k8 := take_one k8
 have e0' : c0 = .string (bstr v0) := e0
 have e6' : c6 = .int .i64 v6 := e6
 subst e0' e6'
 refine ⟨⟨v0, v1, v2, v3, v4, v5, v6, v7, v8⟩, ⟨c1, c2, c3, c4, c5, c7, c8, ?_, ⟨e1, e2, e3, e4, e5, e7, e8⟩⟩, ⟨i6, (by obtain ⟨A, c, _, h⟩ := e1; exact h.fits), i2, (by obtain ⟨A, c, _, h⟩ := e3; exact h.fits), i4, i5, i7, i8⟩⟩
 apply Array.ext_getElem?
 intro i
 rw [List.getElem?_toArray]
 match i with
 | 0 => exact k0
 | 1 => exact k1
 | 2 => exact k2
 | 3 => exact k3
 | 4 => exact k4
 | 5 => exact k5
 | 6 => exact k6
 | 7 => exact k7
 | 8 => exact k8
 | n + 9 => rw [List.getElem?_eq_none (by omega), Array.getElem?_eq_none (by simp)]
end
end Go.Proofs.YteadlcncnhbmjaaGreatDoor
