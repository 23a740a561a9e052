/- The texts Yc, Us, Ut, Uu of this proof, one behind the other. -/
import Derived.Deep.QuietTactic
import Derived.Laws.StructEq
import Derived.Test.YtchkiegehejfmaaGreatDoorMah
import Derived.Test.YtchkiegehejfmaaGreatDoorMae
import Derived.Test.YtchkiegehejfmaaGreatDoorMag
set_option linter.unusedSimpArgs false
set_option maxHeartbeats 16000000
set_option maxRecDepth 100000
/- The text Yc. -/
namespace Pr
def hdT (r : List Tk) : Tk := r.headD ⟨0, []⟩
theorem headIs_hd (w : Str) (r : List Tk) : headIs w r = ((hdT r).form == 1 && (hdT r).text == w) := by
 cases r with
 | nil => rfl
 | cons t r => rfl
theorem takeF_yes {f : Int} {r : List Tk} (hf : f ≠ 0) (h : (hdT r).form = f) : takeF f r = some ((hdT r).text, r.tail) := by
 cases r with
 | nil => exact absurd h (fun e => hf e.symm)
 | cons t r => exact if_pos h
theorem takeF_no {f : Int} {r : List Tk} (h : (hdT r).form ≠ f) : takeF f r = none := by
 cases r with
 | nil => rfl
 | cons t r => exact if_neg h
theorem hd_at {L : List Tk} {i : Nat} (hi : i ≤ L.length) : (L ++ [⟨0, []⟩])[i]? = some (hdT (L.drop i)) := by
 rcases Nat.lt_or_ge i L.length with h | h
 ·rw [List.getElem?_append_left h, List.getElem?_eq_getElem h, List.drop_eq_getElem_cons h]
  rfl
 ·have : i = L.length := by omega
  subst this
  rw [List.getElem?_append_right (Nat.le_refl _), Nat.sub_self, List.drop_length]
  rfl
theorem hd_lt {L : List Tk} {i : Nat} (h : (hdT (L.drop i)).form ≠ 0) : i < L.length := by
 rcases Nat.lt_or_ge i L.length with h' | h'
 ·exact h'
 ·rw [List.drop_eq_nil_of_le h'] at h
  exact absurd rfl h
end Pr
namespace Go.Proofs.YtchkiegehejfmaaGreatDoor
open Go.RowKit Go.Lib
set_option linter.unusedVariables false
set_option linter.unusedSimpArgs false
theorem tkL_at : ∀ (L : List Pr.Tk) (i : Nat) (t : Pr.Tk), L[i]? = some t → (tkL L)[i * 2]? = some (.int .i64 t.form) ∧ (tkL L)[i * 2 + 1]? = some (.string (bstr t.text))
 | [], i, t, h => by cases h
 | x :: L, 0, t, h => by injection h with h; subst h; exact ⟨rfl, rfl⟩
 | x :: L, i + 1, t, h => by
  have := tkL_at L i t h
  rw [show (i + 1) * 2 = i * 2 + 2 by omega]
  exact this
structure PSt (w : World) (g : Nat) (A : Option Addr) (cap : Nat) (L : List Pr.Tk) (i o : Nat) : Prop where
 blk : Blk w g 88 #[.slice A (L.length + 1) cap, .int .i64 (i : Int), .int .i64 (o : Int)]
 row : Rd w A ((L.length + 1) * 2) (tkL (L ++ [⟨0, []⟩]))
 far : ∀ a, A = some a → a.block ≠ g
section
variable {w w' : World} {g : Nat} {A : Option Addr} {cap : Nat} {L : List Pr.Tk} {i o : Nat}
theorem PSt.lt (h : PSt w g A cap L i o) : g < w.heap.size := h.blk.lt
theorem PSt.some_ (h : PSt w g A cap L i o) : ∃ b off, A = some ⟨b, off, none⟩ := by
 obtain ⟨hl, hr⟩ := h.row
 have hlen : (tkL (L ++ [⟨0, []⟩])).length = (L.length + 1) * 2 := hl
 obtain ⟨b, off, hA, _⟩ := hr 0 _ (List.getElem?_eq_getElem (by rw [hlen]; omega))
 exact ⟨b, off, hA⟩
theorem PSt.tok (h : PSt w g A cap L i o) (hi : i ≤ L.length) : ∃ b off, A = some ⟨b, off, none⟩ ∧ w.cell? ⟨b, off + i * 2, none⟩ = some (.int .i64 (Pr.hdT (L.drop i)).form) ∧ w.cell? ⟨b, off + i * 2 + 1, none⟩ = some (.string (bstr (Pr.hdT (L.drop i)).text)) := by
 obtain ⟨b, off, rfl⟩ := h.some_
 obtain ⟨h1, h2⟩ := tkL_at _ _ _ (Pr.hd_at hi)
 obtain ⟨b1, o1, e1, c1⟩ := h.row.2 _ _ h1
 obtain ⟨b2, o2, e2, c2⟩ := h.row.2 _ _ h2
 injection e1 with e1
 injection e1 with e1 e1' _
 injection e2 with e2
 injection e2 with e2 e2' _
 subst e1 e1' e2 e2'
 exact ⟨b, off, rfl, c1, c2⟩
theorem rd_keepG {w w' : World} {A : Option Addr} {n : Nat} {vs : List Value} (h : Rd w A n vs) (hb : ∀ a, A = some a → a.block < w.heap.size → w'.heap[a.block]? = w.heap[a.block]?) : Rd w' A n vs := by
 refine ⟨h.1, fun j v hj => ?_⟩
 obtain ⟨b, off, rfl, hc⟩ := h.2 j v hj
 refine ⟨b, off, rfl, ?_⟩
 rw [World.cell?_of_block (w := w) (a := ⟨b, off + j, none⟩) (hb ⟨b, off, none⟩ rfl (show b < w.heap.size from block_lt hc))]
 exact hc
theorem PSt.below {B : Nat} (h : PSt w g A cap L i o) (hb : Below B w w') (hB : w.heap.size ≤ B) : PSt w' g A cap L i o :=
 ⟨h.blk.below hb (Nat.lt_of_lt_of_le h.lt hB), rd_keepG h.row (fun a ha hl => hb.block _ (by omega)), h.far⟩
theorem PSt.bel (h : PSt w g A cap L i o) (hb : Below w.heap.size w w') : PSt w' g A cap L i o := h.below hb (Nat.le_refl _)
theorem PSt.drewN (h : PSt w g A cap L i o) (q : Nat) : PSt (w.drewN q) g A cap L i o := ⟨h.blk, h.row, h.far⟩
theorem PSt.set1 (h : PSt w g A cap L i o) (n : Nat) : PSt (w.setCell ⟨g, 1, none⟩ (.int .i64 (n : Int))) g A cap L n o :=
 ⟨h.blk.set_ 1 _, rd_keepG h.row (fun a ha hl => Below.heap_setCell _ _ _ _ (h.far a ha)), h.far⟩
theorem PSt.set2 (h : PSt w g A cap L i o) (n : Nat) : PSt (w.setCell ⟨g, 2, none⟩ (.int .i64 (n : Int))) g A cap L i n :=
 ⟨h.blk.set_ 2 _, rd_keepG h.row (fun a ha hl => Below.heap_setCell _ _ _ _ (h.far a ha)), h.far⟩
end
theorem grown_setc (w : World) (g i : Nat) (u : Value) : w.grownBy (w.setCell ⟨g, i, none⟩ u) (some g) :=
 ⟨rfl, rfl, rfl, by simp [World.setCell], fun k hk hne => Below.heap_setCell _ _ _ _ (fun e => hne (by rw [e]))⟩
theorem grown_bel {w w' : World} {g : Nat} (h : Below w.heap.size w w') : w.grownBy w' (some g) := ⟨h.os, h.tape, h.output, h.size, fun k hk _ => h.block k hk⟩
theorem grown_tr {w w' w'' : World} {g : Nat} (h : w.grownBy w' (some g)) (h2 : w'.grownBy w'' (some g)) : w.grownBy w'' (some g) :=
 ⟨h2.os.trans h.os, h2.tape.trans h.tape, h2.output.trans h.output, Nat.le_trans h.size h2.size, fun k hk hne => (h2.block k (Nat.lt_of_lt_of_le hk h.size) hne).trans (h.block k hk hne)⟩
theorem grown_drN (w : World) (g q : Nat) : w.grownBy (w.drewN q) (some g) := grown_bel (below_drewN (Below.refl _ _) q)
theorem tk_fields : Tryz.prog.underlying 92 = some (.struct (Tryz.prog.fieldsOf 92)) := by kernel_rfl
theorem tk_held : Tryz.prog.stoodInHeld 92 = false := by kernel_rfl
theorem tk_map : (Tryz.prog.fieldsOf 92).toList.map (fun f => (f.name, f.type, f.offset)) = [("form", 3, 0), ("text", 9, 1)] := by kernel_rfl
theorem tk_two : ∃ a b : Field, (Tryz.prog.fieldsOf 92).toList = [a, b] ∧ a.name ≠ "_" ∧ b.name ≠ "_" ∧ a.type = 3 ∧ b.type = 9 ∧ a.offset = 0 ∧ b.offset = 1 := by
 have h := tk_map
 generalize (Tryz.prog.fieldsOf 92).toList = l at h
 have hl : l.length = 2 := by have := congrArg List.length h; rwa [List.length_map] at this
 obtain ⟨a, b, rfl⟩ : ∃ a b, l = [a, b] := by
  match l, hl with
  | [a, b], _ => exact ⟨a, b, rfl⟩
 simp only [List.map_cons, List.map_nil, List.cons.injEq, Prod.mk.injEq, and_true] at h
 obtain ⟨⟨a1, a2, a3⟩, b1, b2, b3⟩ := h
 exact ⟨a, b, rfl, by rw [a1]; decide, by rw [b1]; decide, a2, b2, a3, b3⟩
theorem tk_guard : Tryz.prog.eqGuardType Tryz.prog.depth 92 = false := by kernel_rfl
theorem eql_tok (w : World) (f g : Int) (t s : ByteArray) : (binOp .eql 92 (.agg #[.int .i64 f, .string t]) (.agg #[.int .i64 g, .string s])).run Tryz.prog w = .ok (.bool (f == g && t.toList == s.toList)) w := by
 obtain ⟨a, b, hab, ha, hb, hat, hbt, hao, hbo⟩ := tk_two
 rw [run_eql_struct, show (10000 : Nat) = 9999 + 1 from rfl, run_equalIn_agg w 9999 92 _ _ tk_fields tk_held, hab]
 have hi : Tryz.prog.underlying 3 = some (.int .i64) := by kernel_rfl
 have hs : Tryz.prog.underlying 9 = some .string := by kernel_rfl
 have ei := fun (w : World) (x y : Int) => run_equalIn_int (P := Tryz.prog) w 9998 3 .i64 .i64 x y hi
 have es := fun (w : World) (x y : ByteArray) => run_equalIn_string (P := Tryz.prog) w 9998 9 x y hs
 have p0 : ∀ (w : World) (f : Int) (t : ByteArray), (part 3 #[.int .i64 f, .string t] 0).run Tryz.prog w = .ok (.int .i64 f) w := fun _ _ _ => by kernel_rfl
 have p1 : ∀ (w : World) (f : Int) (t : ByteArray), (part 9 #[.int .i64 f, .string t] 1).run Tryz.prog w = .ok (.string t) w := fun _ _ _ => by kernel_rfl
 simp only [Op.eqFields, hat, hbt, hao, hbo, ha, hb, if_true, ne_eq, not_false_eq_true, Sem.run_bind, p0, p1, Result.andThen_ok, ei]
 cases hfg : f == g with
 | false => simp [Sem.run_pure]
 | true =>
  simp only [Bool.not_true, Bool.false_eq_true, if_false, Sem.run_bind, p0, p1, Result.andThen_ok, es]
  cases hts : t.toList == s.toList <;> simp [Sem.run_pure]
theorem pis_any (s : List UInt8) (g : Nat) (A : Option Addr) (cap : Nat) (L : List Pr.Tk) (i o : Nat) (w : World) (h : PSt w g A cap L i o) (hi : i ≤ L.length) (hL : L.length ≤ 1000000) (hs : s.length ≤ 1000) :
  Calls Tryz.prog 141 #[.pointer (some ⟨g, 0, none⟩), .string (bstr s)] w fun e w' => e = .returned (.bool (Pr.headIs s (L.drop i))) ∧ ∃ q, w' = w.drewN q := by
 obtain ⟨b, off, rfl, hc1, hc2⟩ := h.tok hi
 have hb0 := h.blk.cell 0
 have hb1 := h.blk.cell 1
 simp only [List.getElem?_toArray, List.getElem?_cons_succ, List.getElem?_cons_zero] at hb0 hb1
 have HH := hid (Pr.headIs_hd s (L.drop i))
 generalize Pr.headIs s (L.drop i) = R at *
 generalize (Pr.hdT (L.drop i)).form = f at *
 generalize (Pr.hdT (L.drop i)).text = t at *
 clear h
 go_enter Tryz.func141, Tryz.ntmps141
 go_wp2_with fail
 have hI0 : (0 : Int) ≤ (i : Int) := by omega
 have hI1 : (i : Int) < ((L.length : Int) + 1) := by omega
 have hq := fun w => eql_tok w f 1 (bstr t) (bstr s)
 have hg := tk_guard
 have hcmp : ((bstr t).toList == (bstr s).toList) = (t == s) := by rw [str_lit, Lib.toList_data]; rfl
 go_quiet (fail)
 go_wp2_with fail
 go_ret
 exact ⟨congrArg (fun b => Ending.returned (.bool b)) HH.out.symm, _, rfl⟩
theorem pskip_any (s : List UInt8) (g : Nat) (A : Option Addr) (cap : Nat) (L : List Pr.Tk) (i o : Nat) (w : World) (h : PSt w g A cap L i o) (hi : i ≤ L.length) (hL : L.length ≤ 1000000) (hs : s.length ≤ 1000) :
  Calls Tryz.prog 110 #[.pointer (some ⟨g, 0, none⟩), .string (bstr s)] w fun e w' => e = .returned (.bool (Pr.headIs s (L.drop i))) ∧ PSt w' g A cap L (if Pr.headIs s (L.drop i) then i + 1 else i) o ∧ w.grownBy w' (some g) := by
 have hb1 := h.blk.cell 1
 simp only [List.getElem?_toArray, List.getElem?_cons_succ, List.getElem?_cons_zero] at hb1
 have hf1 := h.blk.frozen 1
 have HP := hid h
 have HC := hid (pis_any s g A cap L i o w h hi hL hs)
 cases hR : Pr.headIs s (L.drop i) with
 | true =>
  rw [hR] at HC
  clear h hR
  go_enter Tryz.func110, Tryz.ntmps110
  go_wp2_with (go_at_call 141; refine HC.out.mono ?_; rintro e w' ⟨rfl, q, rfl⟩)
  go_ret
  exact ⟨rfl, (HP.out.drewN q).set1 (i + 1), grown_tr (grown_drN w g q) (grown_setc _ _ _ _)⟩
 | false =>
  rw [hR] at HC
  clear h hR
  go_enter Tryz.func110, Tryz.ntmps110
  go_wp2_with (go_at_call 141; refine HC.out.mono ?_; rintro e w' ⟨rfl, q, rfl⟩)
  go_ret
  exact ⟨rfl, HP.out.drewN q, grown_drN w g q⟩
theorem pneed_any (s : List UInt8) (g : Nat) (A : Option Addr) (cap : Nat) (L : List Pr.Tk) (i o : Nat) (w : World) (h : PSt w g A cap L i o) (hi : i ≤ L.length) (hL : L.length ≤ 1000000) (hs : s.length ≤ 1000) :
  Calls Tryz.prog 61 #[.pointer (some ⟨g, 0, none⟩), .string (bstr s)] w fun e w' => (if Pr.headIs s (L.drop i) then e = .returned (.tuple #[]) ∧ PSt w' g A cap L (i + 1) o else e = .panicked brk) ∧ w.grownBy w' (some g) := by
 have HC := hid (pskip_any s g A cap L i o w h hi hL hs)
 cases hR : Pr.headIs s (L.drop i) with
 | true =>
  rw [hR] at HC
  simp only [if_true]
  clear h hR
  go_enter Tryz.func61, Tryz.ntmps61
  go_wp2_with (go_at_call 110; refine HC.out.mono ?_; rintro e w' ⟨rfl, hp, hg⟩; have HP := hid hp; have HG := hid hg; clear hp hg)
  go_end0
  exact ⟨⟨rfl, HP.out⟩, HG.out⟩
 | false =>
  rw [hR] at HC
  simp only [Bool.false_eq_true, if_false]
  clear h hR
  go_enter Tryz.func61, Tryz.ntmps61
  go_wp2_with (go_at_call 110; refine HC.out.mono ?_; rintro e w' ⟨rfl, hp, hg⟩; have HP := hid hp; have HG := hid hg; clear hp hg)
  exact ⟨rfl, rfl, HG.out⟩
theorem ptake_any (f : Int) (g : Nat) (A : Option Addr) (cap : Nat) (L : List Pr.Tk) (i o : Nat) (w : World) (h : PSt w g A cap L i o) (hi : i ≤ L.length) (hL : L.length ≤ 1000000) :
  Calls Tryz.prog 62 #[.pointer (some ⟨g, 0, none⟩), .int .i64 f] w fun e w' => (if (Pr.hdT (L.drop i)).form = f then e = .returned (.string (bstr (Pr.hdT (L.drop i)).text)) ∧ PSt w' g A cap L (i + 1) o else e = .panicked brk) ∧ w.grownBy w' (some g) := by
 obtain ⟨b, off, rfl, hc1, hc2⟩ := h.tok hi
 have hb0 := h.blk.cell 0
 have hb1 := h.blk.cell 1
 simp only [List.getElem?_toArray, List.getElem?_cons_succ, List.getElem?_cons_zero] at hb0 hb1
 have hf1 := h.blk.frozen 1
 have HP := hid h
 have hlt := h.lt
 have hI0 : (0 : Int) ≤ (i : Int) := by omega
 have hI1 : (i : Int) < ((L.length : Int) + 1) := by omega
 have hltb : b < w.heap.size := block_lt hc1
 generalize (Pr.hdT (L.drop i)).form = f1 at *
 generalize (Pr.hdT (L.drop i)).text = t at *
 clear h
 by_cases hf : f1 = f
 ·subst hf
  simp only [if_true]
  go_enter Tryz.func62, Tryz.ntmps62
  go_wp2_with fail
  go_region
  have HA : Hid (PSt (w.alloc (.cells #[.int .i64 f1, .string (bstr t)] 92)).drew g (some ⟨b, off, none⟩) cap L i o) := hid (HP.out.bel (((Below.refl w.heap.size w).alloc (Nat.le_refl _) (.cells #[.int .i64 f1, .string (bstr t)] 92)).drew))
  have HG : Hid (w.grownBy (w.alloc (.cells #[.int .i64 f1, .string (bstr t)] 92)).drew (some g)) := hid (grown_bel (((Below.refl w.heap.size w).alloc (Nat.le_refl _) (.cells #[.int .i64 f1, .string (bstr t)] 92)).drew))
  have HK : Hid (Blk (w.alloc (.cells #[.int .i64 f1, .string (bstr t)] 92)).drew w.heap.size 92 #[.int .i64 f1, .string (bstr t)]) := hid (Blk.new w 92 #[.int .i64 f1, .string (bstr t)])
  have hne : g ≠ w.heap.size := by omega
  have hne2 : ¬ w.heap.size = g := by omega
  generalize (w.alloc (.cells #[.int .i64 f1, .string (bstr t)] 92)).drew = w1 at *
  generalize w.heap.size = N at *
  have hb1 := HA.out.blk.cell 1
  simp only [List.getElem?_toArray, List.getElem?_cons_succ, List.getElem?_cons_zero] at hb1
  have hf1 := HA.out.blk.frozen 1
  have hk0 := HK.out.cell 0
  have hk1 := HK.out.cell 1
  simp only [List.getElem?_toArray, List.getElem?_cons_succ, List.getElem?_cons_zero] at hk0 hk1
  clear hb0 hc1 hc2 hlt hltb
  go_wp2_with fail
  go_ret
  exact ⟨⟨rfl, HA.out.set1 (i + 1)⟩, grown_tr HG.out (grown_setc _ _ _ _)⟩
 ·simp only [if_neg hf]
  have hfn : (f1 != f) = true := by rw [bne_iff_ne]; exact hf
  clear hf
  go_enter Tryz.func62, Tryz.ntmps62
  go_wp2_with fail
  go_region
  have HA : Hid (PSt (w.alloc (.cells #[.int .i64 f1, .string (bstr t)] 92)).drew g (some ⟨b, off, none⟩) cap L i o) := hid (HP.out.bel (((Below.refl w.heap.size w).alloc (Nat.le_refl _) (.cells #[.int .i64 f1, .string (bstr t)] 92)).drew))
  have HG : Hid (w.grownBy (w.alloc (.cells #[.int .i64 f1, .string (bstr t)] 92)).drew (some g)) := hid (grown_bel (((Below.refl w.heap.size w).alloc (Nat.le_refl _) (.cells #[.int .i64 f1, .string (bstr t)] 92)).drew))
  have HK : Hid (Blk (w.alloc (.cells #[.int .i64 f1, .string (bstr t)] 92)).drew w.heap.size 92 #[.int .i64 f1, .string (bstr t)]) := hid (Blk.new w 92 #[.int .i64 f1, .string (bstr t)])
  have hne : g ≠ w.heap.size := by omega
  have hne2 : ¬ w.heap.size = g := by omega
  generalize (w.alloc (.cells #[.int .i64 f1, .string (bstr t)] 92)).drew = w1 at *
  generalize w.heap.size = N at *
  have hb1 := HA.out.blk.cell 1
  simp only [List.getElem?_toArray, List.getElem?_cons_succ, List.getElem?_cons_zero] at hb1
  have hf1 := HA.out.blk.frozen 1
  have hk0 := HK.out.cell 0
  have hk1 := HK.out.cell 1
  simp only [List.getElem?_toArray, List.getElem?_cons_succ, List.getElem?_cons_zero] at hk0 hk1
  clear hb0 hc1 hc2 hlt hltb
  go_wp2_with fail
  exact ⟨rfl, rfl, HG.out⟩
end Go.Proofs.YtchkiegehejfmaaGreatDoor
/- The text Us. -/
namespace Pr
mutual
def fine : Cn → Prop
 | .mk o _ _ ks => (o = 4 → ks.length = 1) ∧ fineL ks
def fineL : List Cn → Prop
 | [] => True
 | c :: r => fine c ∧ fineL r
end
theorem fineL_iff : ∀ l : List Cn, fineL l ↔ ∀ c ∈ l, fine c
 | [] => by simp [fineL]
 | c :: r => by
  unfold fineL
  rw [fineL_iff r]
  simp
theorem fine_open (c : Cn) : fine c ↔ (c.op = 4 → c.kids.length = 1) ∧ ∀ k ∈ c.kids, fine k := by
 obtain ⟨o, t, n, ks⟩ := c
 rw [fine, fineL_iff]
 rfl
theorem nodesL_append (a b : List Cn) : nodesL (a ++ b) = nodesL a + nodesL b := by
 induction a with
 | nil => simp [nodesL]
 | cons c r ih => rw [List.cons_append, nodesL, nodesL, ih]; omega
theorem nodes_mem {l : List Cn} {c : Cn} (h : c ∈ l) : nodes c ≤ nodesL l := by
 obtain ⟨i, hi⟩ := List.mem_iff_getElem?.1 h
 exact nodes_kid hi
theorem fine_always : fine always := by rw [fine_open]; exact ⟨fun h => absurd h (by decide), fun k h => by cases h⟩
theorem fine_never : fine never := by
 rw [fine_open]
 refine ⟨fun _ => rfl, fun k h => ?_⟩
 rw [show never.kids = [always] from rfl] at h
 rw [List.mem_singleton.1 h]
 exact fine_always
theorem gathF_of (zero unit : Cn) : ∀ (l out : List Cn) (r : List Cn), gathF zero unit out l = some r → nodesL r ≤ nodesL out + nodesL l ∧ r.length ≤ out.length + l.length ∧ ∀ c ∈ r, c ∈ out ∨ c ∈ l
 | [], out, r, h => by
  rw [gathF] at h
  injection h with h
  subst h
  exact ⟨by simp [nodesL], by simp, fun c hc => .inl hc⟩
 | x :: l, out, r, h => by
  rw [gathF] at h
  split at h
  ·cases h
  ·split at h
   ·obtain ⟨h1, h2, h3⟩ := gathF_of zero unit l _ r h
    rw [nodesL_append] at h1
    rw [List.length_append] at h2
    simp only [nodesL, List.length_cons, List.length_nil] at h1 h2 ⊢
    refine ⟨by omega, by omega, fun c hc => ?_⟩
    rcases h3 c hc with h | h
    ·rcases List.mem_append.1 h with h | h
     ·exact .inl h
     ·exact .inr (List.mem_singleton.1 h ▸ List.mem_cons_self ..)
    ·exact .inr (List.mem_cons_of_mem _ h)
   ·obtain ⟨h1, h2, h3⟩ := gathF_of zero unit l _ r h
    simp only [nodesL, List.length_cons] at h1 h2 ⊢
    refine ⟨by omega, by omega, fun c hc => ?_⟩
    rcases h3 c hc with h | h
    ·exact .inl h
    ·exact .inr (List.mem_cons_of_mem _ h)
theorem gath_of (op : Int) (l : List Cn) (zero unit : Cn) : (gath op l zero unit = zero) ∨ (gath op l zero unit = unit) ∨ (gath op l zero unit ∈ l) ∨ ∃ r, gath op l zero unit = .mk op [] 0 r ∧ nodesL r ≤ nodesL l ∧ r.length ≤ l.length ∧ ∀ c ∈ r, c ∈ l := by
 unfold gath
 cases h : gathF zero unit [] l with
 | none => exact .inl rfl
 | some r =>
  obtain ⟨h1, h2, h3⟩ := gathF_of zero unit l [] r h
  simp only [nodesL, List.length_nil, Nat.zero_add] at h1 h2
  match r, h1, h2, h3 with
  | [], _, _, _ => exact .inr (.inl rfl)
  | [x], _, _, h3 => exact .inr (.inr (.inl (by rcases h3 x (List.mem_cons_self ..) with h | h; cases h; exact h)))
  | x :: y :: r, h1, h2, h3 => exact .inr (.inr (.inr ⟨_, rfl, h1, h2, fun c hc => by rcases h3 c hc with h | h; cases h; exact h⟩))
theorem gath_fine {op : Int} {l : List Cn} {zero unit : Cn} (ho : op ≠ 4) (hl : ∀ c ∈ l, fine c) (hz : fine zero) (hu : fine unit) : fine (gath op l zero unit) := by
 rcases gath_of op l zero unit with h | h | h | ⟨r, h, _, _, hr⟩
 ·rw [h]; exact hz
 ·rw [h]; exact hu
 ·exact hl _ h
 ·rw [h, fine_open]
  exact ⟨fun e => absurd e ho, fun k hk => hl _ (hr k hk)⟩
theorem gath_nodes {op : Int} {l : List Cn} {zero unit : Cn} {n : Nat} (hl : nodesL l ≤ n) (hz : nodes zero ≤ n + 1) (hu : nodes unit ≤ n + 1) : nodes (gath op l zero unit) ≤ n + 1 := by
 rcases gath_of op l zero unit with h | h | h | ⟨r, h, h1, _, hr⟩
 ·rw [h]; exact hz
 ·rw [h]; exact hu
 ·have := nodes_mem h; omega
 ·rw [h, nodes]; omega
theorem spread_fine {op : Int} {x : Cn} (h : fine x) : ∀ c ∈ spread op x, fine c := by
 unfold spread
 split
 ·exact ((fine_open x).1 h).2
 ·intro c hc
  rw [List.mem_singleton.1 hc]
  exact h
theorem spread_nodes (op : Int) (x : Cn) : nodesL (spread op x) ≤ nodes x := by
 unfold spread
 split
 ·rw [nodes_eq x]; omega
 ·simp [nodesL]
theorem flat_snoc (op : Int) (ks : List Cn) (x : Cn) : flat op (ks ++ [x]) = flat op ks ++ spread op (simple x) := by
 induction ks with
 | nil => simp [flat]
 | cons k r ih => rw [List.cons_append, flat, flat, ih, List.append_assoc]
theorem notOf_fine {x : Cn} (h : fine x) : fine (notOf x) := by
 unfold notOf
 split
 ·rename_i ho
  obtain ⟨h1, h2⟩ := (fine_open x).1 h
  have h3 := h1 ho
  match hk : x.kids, h3 with
  | [k], _ => exact h2 k (by rw [hk]; exact List.mem_cons_self ..)
 ·rw [fine_open]
  refine ⟨fun _ => rfl, fun k hk => ?_⟩
  rw [List.mem_singleton.1 hk]
  exact h
mutual
theorem simple_fine : ∀ c : Cn, fine (simple c)
 | .mk o t n ks => by
  have hl := fun op => flat_fine op ks
  rw [simple]
  split
  ·exact gath_fine (by decide) (hl 2) fine_never fine_always
  ·split
   ·exact gath_fine (by decide) (hl 3) fine_always fine_never
   ·split
    ·exact notOf_fine (gath_fine (by decide) (hl 3) fine_always fine_never)
    ·split
     ·rw [fine_open]
      exact ⟨fun e => by rename_i h _; exact absurd e h, fun k hk => by cases hk⟩
     ·exact fine_never
theorem flat_fine : ∀ (op : Int) (ks : List Cn), ∀ c ∈ flat op ks, fine c
 | op, [] => fun c hc => by cases hc
 | op, k :: r => fun c hc => by
  rw [flat] at hc
  rcases List.mem_append.1 hc with h | h
  ·exact spread_fine (simple_fine k) c h
  ·exact flat_fine op r c h
end
theorem notOf_nodes {x : Cn} {n : Nat} (h : fine x) (hx : nodes x ≤ n + 1) : nodes (notOf x) ≤ n + 2 := by
 unfold notOf
 split
 ·rename_i ho
  have h3 := ((fine_open x).1 h).1 ho
  match hk : x.kids, h3 with
  | [k], _ =>
   have := nodes_eq x
   rw [hk, nodesL, nodesL] at this
   show nodes k ≤ _
   omega
 ·rw [nodes, nodesL, nodesL]; omega
mutual
theorem simple_nodes : ∀ c : Cn, nodes (simple c) ≤ 2 * nodes c
 | .mk o t n ks => by
  have hl := fun op => flat_nodes op ks
  have h1 : nodes always = 1 := rfl
  have h2 : nodes never = 2 := rfl
  rw [simple, nodes]
  split
  ·have := gath_nodes (op := 2) (l := flat 2 ks) (zero := never) (unit := always) (n := 2 * nodesL ks + 1) (by have := hl 2; omega) (by omega) (by omega)
   omega
  ·split
   ·have := gath_nodes (op := 3) (l := flat 3 ks) (zero := always) (unit := never) (n := 2 * nodesL ks + 1) (by have := hl 3; omega) (by omega) (by omega)
    omega
   ·split
    ·have hf := gath_fine (op := 3) (by decide) (flat_fine 3 ks) fine_always fine_never
     rcases gath_of 3 (flat 3 ks) always never with h | h | h | ⟨r, h, h3, _, hr⟩
     ·rw [h]
      have : nodes (notOf always) = 2 := rfl
      omega
     ·rw [h]
      have : nodes (notOf never) = 1 := rfl
      omega
     ·have h4 := nodes_mem h
      have h5 := nodes_pos (gath 3 (flat 3 ks) always never)
      have := notOf_nodes (n := 2 * nodesL ks) hf (by have := hl 3; omega)
      omega
     ·have := notOf_nodes (n := 2 * nodesL ks) hf (by rw [h, nodes]; have := hl 3; omega)
      omega
    ·split
     ·rw [nodes, nodesL]; omega
     ·omega
theorem flat_nodes : ∀ (op : Int) (ks : List Cn), nodesL (flat op ks) ≤ 2 * nodesL ks
 | op, [] => by simp [flat, nodesL]
 | op, k :: r => by
  have h1 := spread_nodes op (simple k)
  have h2 := simple_nodes k
  have h3 := flat_nodes op r
  rw [flat, nodesL_append, nodesL]
  omega
end
theorem simple_eq (c : Cn) : simple c = if c.op = 2 then gath 2 (flat 2 c.kids) never always
  else if c.op = 3 then gath 3 (flat 3 c.kids) always never
  else if c.op = 4 then notOf (gath 3 (flat 3 c.kids) always never)
  else if known c.op then .mk c.op (if useText c.op then c.text else []) (if useN c.op then c.num else 0) [] else never := by
 cases c
 rw [simple]
 rfl
end Pr
/- The text Ut. -/
namespace Go.Proofs.YtchkiegehejfmaaGreatDoor
open Go.RowKit Go.Lib
set_option linter.unusedVariables false
set_option linter.unusedSimpArgs false
def SimpleTo (m : Nat) : Prop := ∀ (ok : Nat → Prop) (c : Pr.Cn) (V : Array Value) (w : World), Pr.nodes c ≤ m → CnV w ok V c → Calls Tryz.prog 15 #[.agg V] w fun e w' => (∃ X, e = .returned (.agg X) ∧ CnV w' (fun b => w.heap.size ≤ b) X (Pr.simple c)) ∧ Below w.heap.size w w'
theorem flat_at (op : Int) {ks : List Pr.Cn} {k : Nat} {x : Pr.Cn} (h : ks[k]? = some x) : Pr.flat op (ks.take (k + 1)) = Pr.flat op (ks.take k) ++ Pr.spread op (Pr.simple x) := by rw [take_snoc h, Pr.flat_snoc]
theorem one_cn (a : Int) (s : ByteArray) (n : Int) (A : Option Addr) (l c : Nat) : (#[.int .i64 a, .string s, .int .i64 n, .slice A l c] : Array Value).all (·.oneCell') = true := by simp [Value.oneCell']
theorem pflat_any (m : Nat) (HSI : SimpleTo m) (ok : Nat → Prop) (op : Int) (ks : List Pr.Cn) (A : Option Addr) (cap : Nat) (w : World) (hm : Pr.nodesL ks ≤ m) (hm6 : m ≤ 1000000) (hr : CnRow w ok A ks) :
  Calls Tryz.prog 83 #[.int .i64 op, .slice A ks.length cap] w fun e w' => (∃ B cap', e = .returned (.slice B (Pr.flat op ks).length cap') ∧ (Pr.flat op ks).length ≤ cap' ∧ CnRow w' (fun b => w.heap.size ≤ b) B (Pr.flat op ks)) ∧ Below w.heap.size w w' := by
 have HR := hid hr
 have hkl := Pr.kids_nodes ks
 have HFN : Hid (∀ k, (Pr.flat op (ks.take k)).length ≤ 2000000) := hid (fun k => by
  have h1 := Pr.kids_nodes (Pr.flat op (ks.take k))
  have h2 := Pr.flat_nodes op (ks.take k)
  have h3 := Pr.nodesL_le ks k
  omega)
 have HI := hid HSI
 clear hr HSI
 go_enter Tryz.func83, Tryz.ntmps83
 go_wp2_with fail
 go_loopw [5, 11] (fun out ix wr => ∃ k : Nat, k ≤ ks.length ∧ ix = .int .i64 (k : Int) ∧ CnO wr w.heap.size (fun b => w.heap.size ≤ b) out (Pr.flat op (ks.take k)) ∧ Below w.heap.size w wr) (fun _ ix _ => ks.length - (RowKit.intOf ix).toNat)
 case atStart => exact ⟨0, Nat.zero_le _, rfl, CnO.nil, Below.refl _ _⟩
 case round =>
  obtain ⟨k, hk, rfl, ho, hb⟩ := hrel
  have HO := hid ho
  have HB := hid hb
  have hws := hb.size
  clear ho hb
  by_cases hlt : k < ks.length
  ·obtain ⟨x, hx⟩ : ∃ x, ks[k]? = some x := ⟨_, List.getElem?_eq_getElem hlt⟩
   obtain ⟨b, off, cs, rfl, hok, hr, hcl, hcv⟩ := (HR.out.below HB.out) k x hx
   have HXK := hid hx
   have hnk := Pr.nodes_kid hx
   have HFA := hid (flat_at op hx)
   have hf1 := HFN.out (k + 1)
   have HCV := hid hcv
   have hone := hcv.one
   have HL2 : Hid ((Tryz.prog.info? 36).map (·.size) = some cs.length) := hid (by rw [size_cond, hcl])
   have HL3 : Hid ((Tryz.prog.info? 36).map (·.size) = some cs.toArray.size) := hid (by rw [size_cond, List.size_toArray, hcl])
   have HSZ : Hid (zCn.size = cs.toArray.size) := hid (by show 4 = cs.toArray.size; rw [List.size_toArray, hcl])
   obtain ⟨A0, c0, rfl, hc0⟩ := HO.out.len
   clear hx hcv
   go_wp2_with (first
    | ((with_reducible refine wpList_load_mid rfl 36 _ rfl b (off + k * 4) ?_ cs _ hr Tryz.underlying36 ?_ HL2.out ?_); rfl; rfl)
    | ((with_reducible refine wpList_store_row' rfl 36 _ _ rfl wr.heap.size cs.toArray ?_ ?_ 36 _ (Blk.new wr 36 _) HL3.out ?_ hone ?_); rfl; rfl; exact HSZ.out; intro w3 hk3 hs3 hbl3)
    | (refine wpList_load_row rfl 36 _ rfl wr.heap.size rfl 36 cs.toArray (0, 0) _ hk3 Tryz.underlying36 rfl HL3.out ?_))
   have HBR : Hid (Below wr.heap.size wr w3) := hid (((Below.refl _ wr).alloc (Nat.le_refl _) (.cells zCn 36)).trans (hbl3 wr.heap.size (Nat.le_refl _)))
   clear hk3 hs3 hbl3
   refine (HI.out ok x cs.toArray w3 (by omega) (HCV.out.bel HBR.out)).mono ?_
   rintro e w4 ⟨⟨X, rfl, hx4⟩, hb4⟩
   have HB34 : Hid (Below wr.heap.size wr w4) := hid (HBR.out.trans (hb4.mono HBR.out.size))
   have HB4 := hid (HB.out.trans (HB34.out.mono hws))
   have hw4 := HB4.out.size
   have HO4 := hid (HO.out.bel HB34.out)
   have HX4 : Hid (CnV w4 (fun b => wr.heap.size ≤ b) X (Pr.simple x)) := hid (hx4.keep fun b hb _ => ⟨Nat.le_trans HBR.out.size hb, rfl⟩)
   clear hx4 hb4
   generalize Pr.simple x = y at *
   generalize Pr.flat op (ks.take k) = F at *
   rw [HFA.out] at hf1
   obtain ⟨A', c', rfl, hry⟩ := HX4.out.open
   have HRY := hid hry
   have hbx := (Below.refl w4.heap.size w4).alloc (Nat.le_refl _) (.cells #[.int .i64 y.op, .string (bstr y.text), .int .i64 y.num, .slice A' y.kids.length c'] 36)
   have HO5 := hid (HO4.out.bel hbx)
   have HB5 := hid (HB4.out.alloc hw4 (.cells #[.int .i64 y.op, .string (bstr y.text), .int .i64 y.num, .slice A' y.kids.length c'] 36))
   have HX5 := hid (HX4.out.bel hbx)
   have HR5 := hid (hry.below hbx)
   have HK5 := hid (Blk.new w4 36 #[.int .i64 y.op, .string (bstr y.text), .int .i64 y.num, .slice A' y.kids.length c'])
   have HS5 : Hid ((Tryz.prog.info? 36).map (·.size) = some (#[.int .i64 y.op, .string (bstr y.text), .int .i64 y.num, .slice A' y.kids.length c'] : Array Value).size) := hid (by rw [size_cond]; rfl)
   have hout4 : ∀ q, (Value.slice A0 F.length c0).ownBlock = some q → q < wr.heap.size := by
    intro q hq
    obtain ⟨xs, h1, _⟩ := HO.out
    exact (h1.lt q hq).2
   clear hry hbx
   have hw5 : w.heap.size ≤ (w4.alloc (.cells #[.int .i64 y.op, .string (bstr y.text), .int .i64 y.num, .slice A' y.kids.length c'] 36)).heap.size := HB5.out.size
   by_cases hyo : y.op = op
   ·have hsp : Pr.spread op y = y.kids := by unfold Pr.spread; rw [if_pos hyo]
    have hyb : (y.op == op) = true := beq_iff_eq.2 hyo
    rw [hsp] at HFA hf1
    rw [List.length_append] at hf1
    have hlen : F.length + y.kids.length ≤ 100000000000 := by omega
    obtain ⟨xs, hown, hcs⟩ := HO5.out
    obtain ⟨ys, hrd, hone2, hcs2⟩ := HR5.out.rd
    have HCS := hid hcs
    have HCS2 : Hid (CnsV (w4.alloc (.cells #[.int .i64 y.op, .string (bstr y.text), .int .i64 y.num, .slice A' y.kids.length c'] 36)) (fun b => w.heap.size ≤ b ∧ some b ≠ (Value.slice A0 F.length c0).ownBlock) ys y.kids) := hid (CnsV.keep hcs2 fun b hb _ => ⟨⟨Nat.le_trans hws hb, fun e => by have := hout4 b e.symm; omega⟩, rfl⟩)
    clear hcs hcs2 hyo hsp
    go_wp2_with ((refine app_row rowCn rfl _ _ rfl _ (.slice A0 F.length c0) _ xs ys w.heap.size rfl hown A' _ _ rfl hrd hone2 hw5 hlen ?_); intro v6 w6 ho6 hg6 hb6 hwh6)
    go_roundw
    case rel => exact ⟨k + 1, hlt, by go_num, by rw [HFA.out]; exact CnO.app hown HCS.out HCS2.out ho6 hg6 hwh6, hb6 _ HB5.out⟩
    case measure => simp [RowKit.intOf]; omega
   ·have hsp : Pr.spread op y = [y] := by unfold Pr.spread; rw [if_neg hyo]
    have hyb : (y.op == op) = false := beq_eq_false_iff_ne.2 hyo
    rw [hsp] at HFA hf1
    rw [List.length_append] at hf1
    have hlen : F.length + 1 ≤ 100000000000 := by simp at hf1; omega
    have hbz := (Below.refl (w4.alloc (.cells #[.int .i64 y.op, .string (bstr y.text), .int .i64 y.num, .slice A' y.kids.length c'] 36)).heap.size (w4.alloc (.cells #[.int .i64 y.op, .string (bstr y.text), .int .i64 y.num, .slice A' y.kids.length c'] 36))).alloc (Nat.le_refl _) (.cells #[.int .i64 y.op, .string (bstr y.text), .int .i64 y.num, .slice A' y.kids.length c'] 36)
    obtain ⟨xs, hown, hcs⟩ := HO5.out.bel hbz
    have HCS := hid hcs
    have HCS2 := hid (CnsV.one ((HX5.out.bel hbz).keep (ok' := fun b => w.heap.size ≤ b ∧ some b ≠ (Value.slice A0 F.length c0).ownBlock) fun b hb _ => ⟨⟨Nat.le_trans hws hb, fun e => by have := hout4 b e.symm; omega⟩, rfl⟩))
    have hrd : Rd ((w4.alloc (.cells #[.int .i64 y.op, .string (bstr y.text), .int .i64 y.num, .slice A' y.kids.length c'] 36)).alloc (.cells #[.int .i64 y.op, .string (bstr y.text), .int .i64 y.num, .slice A' y.kids.length c'] 36)) (some ⟨w4.heap.size + 1, 0, none⟩) (1 * 4) [.int .i64 y.op, .string (bstr y.text), .int .i64 y.num, .slice A' y.kids.length c'] := by
     have := Rd.of_blk (vs := [.int .i64 y.op, .string (bstr y.text), .int .i64 y.num, .slice A' y.kids.length c']) (Blk.new (w4.alloc (.cells #[.int .i64 y.op, .string (bstr y.text), .int .i64 y.num, .slice A' y.kids.length c'] 36)) 36 #[.int .i64 y.op, .string (bstr y.text), .int .i64 y.num, .slice A' y.kids.length c'])
     rw [World.size_alloc] at this
     exact this
    have hw6 : w.heap.size ≤ ((w4.alloc (.cells #[.int .i64 y.op, .string (bstr y.text), .int .i64 y.num, .slice A' y.kids.length c'] 36)).alloc (.cells #[.int .i64 y.op, .string (bstr y.text), .int .i64 y.num, .slice A' y.kids.length c'] 36)).heap.size := by rw [World.size_alloc]; omega
    have HB6 := hid (HB5.out.alloc hw5 (.cells #[.int .i64 y.op, .string (bstr y.text), .int .i64 y.num, .slice A' y.kids.length c'] 36))
    have hone2 : ∀ u ∈ ([.int .i64 y.op, .string (bstr y.text), .int .i64 y.num, .slice A' y.kids.length c'] : List Value), u.oneCell' = true := by intro u hu; simp at hu; rcases hu with rfl | rfl | rfl | rfl <;> rfl
    clear hcs hyo hsp hbz
    go_wp2_with (first
     | (refine load_row_u (by rfl) 36 _ rfl w4.heap.size rfl 36 _ (0, 0) _ rfl HK5.out Tryz.underlying36 HS5.out ?_)
     | ((refine app_row rowCn rfl _ _ rfl _ (.slice A0 F.length c0) _ xs _ w.heap.size rfl hown _ 1 1 rfl hrd hone2 hw6 hlen ?_); intro v6 w6 ho6 hg6 hb6 hwh6))
    go_roundw
    case rel => exact ⟨k + 1, hlt, by go_num, by rw [HFA.out]; exact CnO.app hown HCS.out HCS2.out ho6 hg6 hwh6, hb6 _ HB6.out⟩
    case measure => simp [RowKit.intOf]; omega
  ·obtain rfl : k = ks.length := by omega
   rw [List.take_length] at HO
   obtain ⟨B, cap', rfl, hcap, hrow⟩ := HO.out.row (ok' := fun b => w.heap.size ≤ b) (fun b h => h) (fun q hq => by obtain ⟨xs, h1, _⟩ := HO.out; exact (h1.lt q hq).1)
   have HRO := hid hrow
   clear hrow
   go_wp2_with fail
   go_ret
   exact ⟨⟨B, cap', rfl, hcap, HRO.out⟩, HB.out⟩
end Go.Proofs.YtchkiegehejfmaaGreatDoor
/- The text Uu. -/
namespace Pr
theorem any_same (x : Cn) (l : List Cn) : l.any (fun y => same x y) = decide (x ∈ l) := by
 induction l with
 | nil => rfl
 | cons y r ih =>
  rw [List.any_cons, ih, same_dec]
  by_cases h : x = y
  ·subst h; simp
  ·simp [h]
theorem gathF_step (zero unit : Cn) (out : List Cn) (x : Cn) (r : List Cn) : gathF zero unit out (x :: r) = if same x zero = true then none else if same x unit = false ∧ out.any (fun y => same x y) = false then gathF zero unit (out ++ [x]) r else gathF zero unit out r := by
 rw [gathF, any_same, same_dec, same_dec]
 by_cases h1 : x = zero <;> by_cases h2 : x = unit <;> by_cases h3 : x ∈ out <;> simp [h1, h2, h3]
def gFin (op : Int) (unit : Cn) : List Cn → Cn
 | [] => unit
 | [x] => x
 | x :: y :: G => .mk op [] 0 (x :: y :: G)
theorem gath_some (op : Int) (l : List Cn) (zero unit : Cn) (G : List Cn) (h : gathF zero unit [] l = some G) : gath op l zero unit = gFin op unit G := by
 have : ∀ o, gathF zero unit [] l = o → gath op l zero unit = match o with
  | none => zero
  | some [] => unit
  | some [x] => x
  | some out => .mk op [] 0 out := by intro o ho; subst ho; rfl
 rw [this _ h]
 match G with
 | [] => rfl
 | [x] => rfl
 | _ :: _ :: _ => rfl
end Pr
namespace Go.Proofs.YtchkiegehejfmaaGreatDoor
open Go.RowKit Go.Lib
set_option linter.unusedVariables false
set_option linter.unusedSimpArgs false
theorem store_row_q {ops : Array Oper} {rest : List Oper} {o : Oper} {a : Act} {w : World} {Q : Exit → Act → World → Prop} (hgd : o.guard = none) (ty : TypeId) (x y : Operand) (ho : o.op = .store ty x y)
  (g : Nat) (cells : Array Value) (hx : a.eval x = .pointer (some ⟨g, 0, none⟩)) (hy : a.eval y = .agg cells)
  (t : TypeId) (old : Array Value) (hg : Blk w g t old) (hi : (Tryz.prog.info? ty).map (·.size) = some cells.size)
  (hold : old.size = cells.size) (h1 : cells.all (·.oneCell') = true)
  (h : ∀ w', Blk w' g t cells → w'.heap.size = w.heap.size → (∀ B, B ≤ g → Below B w w') → (∀ k, k ≠ g → w'.heap[k]? = w.heap[k]?) → wpList Tryz.prog ops Q rest (a.put o.dst undef) w') : wpList Tryz.prog ops Q (o :: rest) a w :=
 wpList_store_row hgd ty x y ho g cells hx hy t old hg hi hold h1
  (h _ (setRow_heap _ _ _ _ _ _ hg) (setRow_size _ _ _) (fun _ hB => below_setRow (Below.refl _ _) hB _) (fun k hk => setRow_other _ _ _ _ hk))
theorem pgath_any (m : Nat) (HSI : SimpleTo m) (ok okz oku : Nat → Prop) (op : Int) (ks : List Pr.Cn) (A : Option Addr) (cap : Nat) (zero unit : Pr.Cn) (Z U : Array Value) (w : World) (hm : Pr.nodesL ks ≤ m) (hm6 : m ≤ 100000) (hr : CnRow w ok A ks)
  (hz : CnV w okz Z zero) (hu : CnV w oku U unit) (hnz : Pr.nodes zero ≤ 10) (hnu : Pr.nodes unit ≤ 10) :
  Calls Tryz.prog 41 #[.int .i64 op, .slice A ks.length cap, .agg Z, .agg U] w fun e w' => (∃ X, e = .returned (.agg X) ∧ CnV w' (fun b => okz b ∨ oku b ∨ w.heap.size ≤ b) X (Pr.gath op (Pr.flat op ks) zero unit)) ∧ Below w.heap.size w w' := by
 have hb3 := (((Below.refl w.heap.size w).alloc (Nat.le_refl _) (.cells Z 36)).alloc (by rw [World.size_alloc]; exact Nat.le_succ _) (.cells U 36)).alloc (by rw [World.size_alloc, World.size_alloc]; omega) (.cells zCn 36)
 have hsz : (((w.alloc (.cells Z 36)).alloc (.cells U 36)).alloc (.cells zCn 36)).heap.size = w.heap.size + 3 := by rw [World.size_alloc, World.size_alloc, World.size_alloc]
 have hkz : Blk (((w.alloc (.cells Z 36)).alloc (.cells U 36)).alloc (.cells zCn 36)) w.heap.size 36 Z := ((Blk.new w 36 Z).alloc _).alloc _
 have hku : Blk (((w.alloc (.cells Z 36)).alloc (.cells U 36)).alloc (.cells zCn 36)) (w.heap.size + 1) 36 U := by have := (Blk.new (w.alloc (.cells Z 36)) 36 U).alloc (.cells zCn 36); rw [World.size_alloc] at this; exact this
 have hkr : Blk (((w.alloc (.cells Z 36)).alloc (.cells U 36)).alloc (.cells zCn 36)) (w.heap.size + 2) 36 zCn := by have := Blk.new ((w.alloc (.cells Z 36)).alloc (.cells U 36)) 36 zCn; rw [World.size_alloc, World.size_alloc] at this; exact this
 have HSZ1 : Hid ((Tryz.prog.info? 36).map (·.size) = some Z.size) := hid (by rw [size_cond, hz.size])
 have HSU1 : Hid ((Tryz.prog.info? 36).map (·.size) = some U.size) := hid (by rw [size_cond, hu.size])
 have HOZ : Hid (zCn.size = Z.size) := hid (by rw [hz.size]; rfl)
 have HOU : Hid (zCn.size = U.size) := hid (by rw [hu.size]; rfl)
 have HZ := hid hz
 have HU := hid hu
 have HB1 := hid hb3
 have HSZ := hid hsz
 have HKZ := hid hkz
 have HKU := hid hku
 have HKR := hid hkr
 have HR1 := hid (hr.below hb3)
 have hfn := Pr.flat_nodes op ks
 have hfl := Pr.kids_nodes (Pr.flat op ks)
 have HFM : Hid (∀ c ∈ Pr.flat op ks, Pr.nodes c ≤ 200000) := hid (fun c hc => by have := Pr.nodes_mem hc; omega)
 have HF6 : Hid ((Pr.flat op ks).length ≤ 200000) := hid (by omega)
 clear hr hz hu hb3 hsz hkz hku hkr hfn hfl
 generalize hw1 : ((w.alloc (.cells Z 36)).alloc (.cells U 36)).alloc (.cells zCn 36) = w1 at *
 go_enter Tryz.func41, Tryz.ntmps41
 go_wp2_with fail
 refine (pflat_any m HSI ok op ks A cap w1 hm (by omega) HR1.out).mono ?_
 rintro e w2 ⟨⟨B, cap', rfl, hcap, hrow⟩, hb2⟩
 have HROW := hid hrow
 have HB2 := hid (HB1.out.trans (hb2.mono HB1.out.size))
 have HKZ2 := hid (HKZ.out.below hb2 HKZ.out.lt)
 have HKU2 := hid (HKU.out.below hb2 HKU.out.lt)
 have HKR2 := hid (HKR.out.below hb2 HKR.out.lt)
 have hs12 := hb2.size
 have hs12' : w.heap.size + 3 ≤ w2.heap.size := by have := HSZ.out; omega
 clear hrow hb2
 obtain ⟨F, hF⟩ : ∃ F, Pr.flat op ks = F := ⟨_, rfl⟩
 have HFE := hid hF
 rw [hF] at HROW HFM HF6 hcap ⊢
 clear hF
 clear hw1 HKZ HKU HKR HR1
 have hF6 := HF6.out
 go_wp2_with fail
 go_loopw [9, 16] (fun out ix wr => ∃ (k : Nat) (G : List Pr.Cn), k ≤ F.length ∧ ix = .int .i64 (k : Int) ∧ Pr.gathF zero unit [] F = Pr.gathF zero unit G (F.drop k) ∧ G.length ≤ k ∧ (∀ c ∈ G, c ∈ F) ∧ CnO wr w2.heap.size (fun b => w1.heap.size ≤ b) out G ∧ Below w2.heap.size w2 wr) (fun _ ix _ => F.length - (RowKit.intOf ix).toNat)
 case atStart => exact ⟨0, [], Nat.zero_le _, rfl, rfl, Nat.le_refl _, (fun c h => by cases h), CnO.nil, Below.refl _ _⟩
 case round =>
  obtain ⟨k, G, hk, rfl, hg, hgl, hgm, ho, hb⟩ := hrel
  have HG := hid hg
  have HGM := hid hgm
  have HO := hid ho
  have HB := hid hb
  have hws := hb.size
  have HKZ := hid (HKZ2.out.below hb HKZ2.out.lt)
  have HKU := hid (HKU2.out.below hb HKU2.out.lt)
  have HKR := hid (HKR2.out.below hb HKR2.out.lt)
  have HZr := hid (HZ.out.bel (HB2.out.trans (hb.mono HB2.out.size)))
  have HUr := hid (HU.out.bel (HB2.out.trans (hb.mono HB2.out.size)))
  have HBr := hid (HB2.out.trans (hb.mono HB2.out.size))
  obtain ⟨A0, c0, rfl, hc0⟩ := HO.out.len
  have hownlt : ∀ q, (Value.slice A0 G.length c0).ownBlock = some q → w2.heap.size ≤ q ∧ q < wr.heap.size := by
   intro q hq
   obtain ⟨xs, h1, _⟩ := HO.out
   exact h1.lt q hq
  clear ho hb hg hgm
  by_cases hlt : k < F.length
  ·obtain ⟨x, hx⟩ : ∃ x, F[k]? = some x := ⟨_, List.getElem?_eq_getElem hlt⟩
   obtain ⟨b, off, cs, rfl, hok, hr2, hcl, hcv⟩ := HROW.out k x hx
   have hr : wr.rangeAt b (off + k * 4) cs := range_keep hr2 (HB.out.block _ (range_lt hr2 (by omega)))
   have HCV : Hid (CnV wr (fun b => w1.heap.size ≤ b ∧ b < w2.heap.size) cs.toArray x) := hid (hcv.keep fun b hb hl => ⟨⟨hb, hl⟩, HB.out.block b hl⟩)
   have HST : Hid (Pr.gathF zero unit G (F.drop k) = if Pr.same x zero = true then none else if Pr.same x unit = false ∧ G.any (fun y => Pr.same x y) = false then Pr.gathF zero unit (G ++ [x]) (F.drop (k + 1)) else Pr.gathF zero unit G (F.drop (k + 1))) := hid (by
    obtain ⟨h1, h2⟩ := List.getElem?_eq_some_iff.1 hx
    rw [List.drop_eq_getElem_cons h1, h2, Pr.gathF_step])
   have HXM := hid (List.mem_of_getElem? hx)
   have hnx := HFM.out x (List.mem_of_getElem? hx)
   obtain ⟨A', c', hcse, -⟩ := HCV.out.open
   have hcse2 : cs = [.int .i64 x.op, .string (bstr x.text), .int .i64 x.num, .slice A' x.kids.length c'] := by have := congrArg Array.toList hcse; simpa using this
   subst hcse2
   have HL2 : Hid ((Tryz.prog.info? 36).map (·.size) = some ([.int .i64 x.op, .string (bstr x.text), .int .i64 x.num, .slice A' x.kids.length c'] : List Value).length) := hid (by rw [size_cond]; rfl)
   have HS5 : Hid ((Tryz.prog.info? 36).map (·.size) = some (#[.int .i64 x.op, .string (bstr x.text), .int .i64 x.num, .slice A' x.kids.length c'] : Array Value).size) := hid (by rw [size_cond]; rfl)
   have hbx := (Below.refl wr.heap.size wr).alloc (Nat.le_refl _) (.cells #[.int .i64 x.op, .string (bstr x.text), .int .i64 x.num, .slice A' x.kids.length c'] 36)
   have HKX := hid (Blk.new wr 36 #[.int .i64 x.op, .string (bstr x.text), .int .i64 x.num, .slice A' x.kids.length c'])
   have HKZ3 := hid (HKZ.out.alloc (.cells #[.int .i64 x.op, .string (bstr x.text), .int .i64 x.num, .slice A' x.kids.length c'] 36))
   have HKU3 := hid (HKU.out.alloc (.cells #[.int .i64 x.op, .string (bstr x.text), .int .i64 x.num, .slice A' x.kids.length c'] 36))
   have HCV3 := hid (HCV.out.bel hbx)
   have HZ3 := hid (HZr.out.bel hbx)
   have HU3 := hid (HUr.out.bel hbx)
   have HO3 := hid (HO.out.bel hbx)
   have HBX := hid hbx
   have hs3 : (wr.alloc (.cells #[.int .i64 x.op, .string (bstr x.text), .int .i64 x.num, .slice A' x.kids.length c'] 36)).heap.size = wr.heap.size + 1 := World.size_alloc ..
   have HS3 := hid hs3
   clear hx hcv hcse hbx hs3 hr2
   obtain ⟨w3, hw3⟩ : ∃ w3, wr.alloc (.cells #[.int .i64 x.op, .string (bstr x.text), .int .i64 x.num, .slice A' x.kids.length c'] 36) = w3 := ⟨_, rfl⟩
   rw [hw3] at HKX HKZ3 HKU3 HCV3 HZ3 HU3 HO3 HBX HS3
   have hsu := True.intro
   go_wp2_with (first
    | ((with_reducible refine wpList_load_mid rfl 36 _ rfl b (off + k * 4) ?_ _ _ hr Tryz.underlying36 ?_ HL2.out ?_); rfl; rfl)
    | (refine load_row_u (by rfl) 36 _ rfl wr.heap.size rfl 36 _ (0, 0) _ rfl HKX.out Tryz.underlying36 HS5.out ?_)
    | (refine load_row_u (by rfl) 36 _ rfl w.heap.size rfl 36 _ (0, 0) _ rfl HKZ3.out Tryz.underlying36 HSZ1.out ?_))
   refine (psame_any (Pr.nodes x) _ okz x zero _ Z w3 (Nat.le_refl _) (by omega) HCV3.out HZ3.out).mono ?_
   rintro e w4 ⟨rfl, hb4⟩
   have hs34 := hb4.size
   have HBX4 := hid (HBX.out.trans (hb4.mono HBX.out.size))
   have HB4 := hid (HB.out.trans (HBX4.out.mono hws))
   have HKX4 := hid (HKX.out.below hb4 HKX.out.lt)
   have HKZ4 := hid (HKZ3.out.below hb4 HKZ3.out.lt)
   have HKU4 := hid (HKU3.out.below hb4 HKU3.out.lt)
   have HKR4 := hid (HKR.out.below HBX4.out HKR.out.lt)
   have HCV4 := hid (HCV3.out.bel hb4)
   have HU4 := hid (HU3.out.bel hb4)
   have HO4 := hid (HO3.out.bel hb4)
   have HS4 : Hid (wr.heap.size + 1 ≤ w4.heap.size) := hid (by have := HS3.out; omega)
   clear hb4 hs34 hw3
   cases hsz : Pr.same x zero with
   | true =>
    have HFIN : Hid (Pr.gath op F zero unit = zero) := hid (by unfold Pr.gath; rw [HG.out, HST.out, if_pos hsz])
    have hZ1 := HZ.out.one
    clear hsz
    go_wp2_with (first
     | (refine load_row_u (by rfl) 36 _ rfl w.heap.size rfl 36 _ (0, 0) _ rfl HKZ4.out Tryz.underlying36 HSZ1.out ?_)
     | ((with_reducible refine store_row_q rfl 36 _ _ rfl (w.heap.size + 2) Z ?_ ?_ 36 _ HKR4.out HSZ1.out HOZ.out hZ1 ?_); rfl; rfl; intro w9 hk9 hs9 hbl9 hoth9))
    have HB9 : Hid (Below w.heap.size w w9) := hid ((HB2.out.trans (HB4.out.mono HB2.out.size)).trans (hbl9 w.heap.size (by omega)))
    exact bodyPost_ret (v := .agg Z) (results_cell_row rfl _ _ (w.heap.size + 2) 36 _ (0, 0) _ rfl hk9 Tryz.underlying36 rfl HSZ1.out) rfl ⟨⟨_, rfl, by rw [HFE.out, HFIN.out]; exact HZ.out.keep fun b hb hl => ⟨.inl hb, HB9.out.block b hl⟩⟩, HB9.out⟩
   | false =>
    go_wp2_with (first
     | (refine load_row_u (by rfl) 36 _ rfl wr.heap.size rfl 36 _ (0, 0) _ rfl HKX4.out Tryz.underlying36 HS5.out ?_)
     | (refine load_row_u (by rfl) 36 _ rfl (w.heap.size + 1) rfl 36 _ (0, 0) _ rfl HKU4.out Tryz.underlying36 HSU1.out ?_))
    refine (psame_any (Pr.nodes x) _ oku x unit _ U w4 (Nat.le_refl _) (by omega) HCV4.out HU4.out).mono ?_
    rintro e w5 ⟨rfl, hb5⟩
    have HB5 := hid (HB4.out.trans (hb5.mono HB4.out.size))
    have HBX5 := hid (HBX4.out.trans (hb5.mono HBX4.out.size))
    have HKX5 := hid (HKX4.out.below hb5 HKX4.out.lt)
    have HCV5 := hid (HCV4.out.bel hb5)
    have HO5 := hid (HO4.out.bel hb5)
    have HS5b : Hid (wr.heap.size + 1 ≤ w5.heap.size) := hid (by have := HS4.out; have := hb5.size; omega)
    clear hb5
    cases hsu : Pr.same x unit with
    | true =>
     have HG2 : Hid (Pr.gathF zero unit [] F = Pr.gathF zero unit G (F.drop (k + 1))) := hid (by rw [HG.out, HST.out, hsz, hsu, if_neg (by decide), if_neg (by simp)])
     clear hsz hsu
     go_wp2_with fail
     go_roundw
     case rel => exact ⟨k + 1, G, hlt, by go_num, HG2.out, by omega, HGM.out, HO5.out, HB5.out⟩
     case measure => simp [RowKit.intOf]; omega
    | false =>
     obtain ⟨A1, c1, e1, hc1, hrowG⟩ := HO5.out.row (ok' := fun b => w1.heap.size ≤ b) (fun b h => h) (fun q hq => by have := hownlt q hq; omega)
     injection e1 with e1 e2 e3
     subst e1 e3
     have HRG := hid hrowG
     have HHS := hid (has_same _ _ x #[.int .i64 x.op, .string (bstr x.text), .int .i64 x.num, .slice A' x.kids.length c'] G A0 c0 wr.heap.size w5 (by omega) hrowG HCV5.out HKX5.out (by omega) (fun y hy => by have := HFM.out y (HGM.out y hy); omega))
     clear hrowG e2
     go_wp2_with fail
     refine HHS.out.mono ?_
     rintro e w6 ⟨rfl, hb6⟩
     have HB6 := hid (HB5.out.trans (hb6.mono HB5.out.size))
     have HBX6 := hid (HBX5.out.trans (hb6.mono HBX5.out.size))
     have HKX6 := hid (HKX5.out.below hb6 HKX5.out.lt)
     have HCV6 := hid (HCV5.out.bel hb6)
     have HO6 := hid (HO5.out.bel hb6)
     have hs6 : w2.heap.size ≤ w6.heap.size := HB6.out.size
     clear hb6
     cases hin : G.any (fun y => Pr.same x y) with
     | true =>
      have HG2 : Hid (Pr.gathF zero unit [] F = Pr.gathF zero unit G (F.drop (k + 1))) := hid (by rw [HG.out, HST.out, hsz, hsu, hin, if_neg (by decide), if_neg (by simp)])
      clear hsz hsu hin
      go_wp2_with fail
      go_roundw
      case rel => exact ⟨k + 1, G, hlt, by go_num, HG2.out, by omega, HGM.out, HO6.out, HB6.out⟩
      case measure => simp [RowKit.intOf]; omega
     | false =>
      have HG2 : Hid (Pr.gathF zero unit [] F = Pr.gathF zero unit (G ++ [x]) (F.drop (k + 1))) := hid (by rw [HG.out, HST.out, hsz, hsu, hin, if_neg (by decide), if_pos ⟨rfl, rfl⟩])
      have hbz := (Below.refl w6.heap.size w6).alloc (Nat.le_refl _) (.cells #[.int .i64 x.op, .string (bstr x.text), .int .i64 x.num, .slice A' x.kids.length c'] 36)
      obtain ⟨xs, hown, hcs⟩ := HO6.out.bel hbz
      have HCS := hid hcs
      have HCS2 := hid (CnsV.one ((HCV6.out.bel hbz).keep (ok' := fun b => w1.heap.size ≤ b ∧ some b ≠ (Value.slice A0 G.length c0).ownBlock) fun b hb _ => ⟨⟨hb.1, fun e => by have := (hownlt b e.symm).1; omega⟩, rfl⟩))
      have hrd := Rd.of_blk (vs := [.int .i64 x.op, .string (bstr x.text), .int .i64 x.num, .slice A' x.kids.length c']) (Blk.new w6 36 #[.int .i64 x.op, .string (bstr x.text), .int .i64 x.num, .slice A' x.kids.length c'])
      have HB7 := hid (HB6.out.alloc hs6 (.cells #[.int .i64 x.op, .string (bstr x.text), .int .i64 x.num, .slice A' x.kids.length c'] 36))
      have hs7 : w2.heap.size ≤ (w6.alloc (.cells #[.int .i64 x.op, .string (bstr x.text), .int .i64 x.num, .slice A' x.kids.length c'] 36)).heap.size := HB7.out.size
      have hone2 : ∀ u ∈ ([.int .i64 x.op, .string (bstr x.text), .int .i64 x.num, .slice A' x.kids.length c'] : List Value), u.oneCell' = true := by intro u hu; simp at hu; rcases hu with rfl | rfl | rfl | rfl <;> rfl
      have hlen : G.length + 1 ≤ 100000000000 := by omega
      clear hsz hsu hin hcs hbz
      go_wp2_with (first
       | (refine load_row_u (by rfl) 36 _ rfl wr.heap.size rfl 36 _ (0, 0) _ rfl HKX6.out Tryz.underlying36 HS5.out ?_)
       | ((refine app_row rowCn rfl _ _ rfl _ (.slice A0 G.length c0) _ xs _ w2.heap.size rfl hown _ 1 1 rfl hrd hone2 hs7 hlen ?_); intro v8 w8 ho8 hg8 hb8 hwh8))
      go_roundw
      case rel => exact ⟨k + 1, G ++ [x], hlt, by go_num, HG2.out, by rw [List.length_append]; show G.length + 1 ≤ k + 1; omega, (fun c hc => by rcases List.mem_append.1 hc with h | h; exact HGM.out c h; rw [List.mem_singleton.1 h]; exact HXM.out), CnO.app hown HCS.out HCS2.out ho8 hg8 hwh8, hb8 _ HB7.out⟩
      case measure => simp [RowKit.intOf]; omega
  ·obtain rfl : k = F.length := by omega
   have HFIN0 : Hid (Pr.gath op F zero unit = Pr.gFin op unit G) := hid (Pr.gath_some op F zero unit G (by rw [HG.out, List.drop_length]; rfl))
   obtain ⟨A1, c1, e1, hc1, hrowG⟩ := HO.out.row (ok' := fun b => w1.heap.size ≤ b) (fun b h => h) (fun q hq => by have := hownlt q hq; omega)
   injection e1 with e1 e2 e3
   subst e1 e3
   have HRG := hid hrowG
   clear hrowG e2
   have hs1 := HSZ.out
   rcases G with _ | ⟨x, _ | ⟨y, G⟩⟩
   ·have HFIN : Hid (Pr.gath op F zero unit = unit) := HFIN0
    have hU1 := HU.out.one
    clear HFIN0
    simp only [List.length_nil] at *
    go_wp2_with (first
     | (refine load_row_u (by rfl) 36 _ rfl (w.heap.size + 1) rfl 36 _ (0, 0) _ rfl HKU.out Tryz.underlying36 HSU1.out ?_)
     | ((with_reducible refine store_row_q rfl 36 _ _ rfl (w.heap.size + 2) U ?_ ?_ 36 _ HKR.out HSU1.out HOU.out hU1 ?_); rfl; rfl; intro w9 hk9 hs9 hbl9 hoth9))
    have HB9 : Hid (Below w.heap.size w w9) := hid (HBr.out.trans (hbl9 w.heap.size (by omega)))
    exact bodyPost_ret (v := .agg U) (results_cell_row rfl _ _ (w.heap.size + 2) 36 _ (0, 0) _ rfl hk9 Tryz.underlying36 rfl HSU1.out) rfl ⟨⟨_, rfl, by rw [HFE.out, HFIN.out]; exact HU.out.keep fun b hb hl => ⟨.inr (.inl hb), HB9.out.block b hl⟩⟩, HB9.out⟩
   ·have HFIN : Hid (Pr.gath op F zero unit = x) := HFIN0
    obtain ⟨b, off, cs, rfl, hok, hr, hcl, hcv⟩ := HRG.out 0 x rfl
    have HCV := hid hcv
    have hone := hcv.one
    rw [Nat.zero_mul, Nat.add_zero] at hr
    have HL2 : Hid ((Tryz.prog.info? 36).map (·.size) = some cs.length) := hid (by rw [size_cond, hcl])
    have HL3 : Hid ((Tryz.prog.info? 36).map (·.size) = some cs.toArray.size) := hid (by rw [size_cond, List.size_toArray, hcl])
    have HSZ3 : Hid (zCn.size = cs.toArray.size) := hid (by show 4 = cs.toArray.size; rw [List.size_toArray, hcl])
    clear hcv HFIN0
    simp only [List.length_cons, List.length_nil, Nat.zero_add] at hc0 hc1 hgl ⊢
    go_wp2_with (first
     | ((with_reducible refine wpList_load_mid rfl 36 _ rfl b off ?_ cs _ hr Tryz.underlying36 ?_ HL2.out ?_); rfl; rfl)
     | ((with_reducible refine store_row_q rfl 36 _ _ rfl (w.heap.size + 2) cs.toArray ?_ ?_ 36 _ HKR.out HL3.out HSZ3.out hone ?_); rfl; rfl; intro w9 hk9 hs9 hbl9 hoth9))
    have HB9 : Hid (Below w.heap.size w w9) := hid (HBr.out.trans (hbl9 w.heap.size (by omega)))
    exact bodyPost_ret (v := .agg cs.toArray) (results_cell_row rfl _ _ (w.heap.size + 2) 36 _ (0, 0) _ rfl hk9 Tryz.underlying36 rfl HL3.out) rfl ⟨⟨_, rfl, by rw [HFE.out, HFIN.out]; exact HCV.out.keep fun b hb hl => ⟨.inr (.inr (by omega)), hoth9 b (by omega)⟩⟩, HB9.out⟩
   ·have HFIN : Hid (Pr.gath op F zero unit = .mk op [] 0 (x :: y :: G)) := HFIN0
    clear HFIN0
    have hn0 : ¬ ((x :: y :: G).length : Int) = 0 := by simp only [List.length_cons]; omega
    have hn1 : ¬ ((x :: y :: G).length : Int) = 1 := by simp only [List.length_cons]; omega
    have hq0 : (((x :: y :: G).length : Int) == 0) = false := beq_eq_false_iff_ne.2 hn0
    have hq1 : (((x :: y :: G).length : Int) == 1) = false := beq_eq_false_iff_ne.2 hn1
    have HFIN2 : Hid (Pr.gath op F zero unit = .mk op [] 0 (x :: y :: G)) := hid HFIN.out
    have HLR : Hid ((Tryz.prog.info? 36).map (·.size) = some (#[.int .i64 op, .string ⟨#[]⟩, .int .i64 0, .slice A0 (x :: y :: G).length c0] : Array Value).size) := hid (by rw [size_cond]; rfl)
    clear HFIN
    generalize hGG : x :: y :: G = GG at *
    clear hGG
    go_wp2_with (first
     | ((with_reducible refine store_row_q rfl 36 _ _ rfl (w.heap.size + 2) #[.int .i64 op, .string ⟨#[]⟩, .int .i64 0, .slice A0 GG.length c0] ?_ ?_ 36 _ HKR.out HLR.out rfl (one_cn _ _ _ _ _ _) ?_); rfl; rfl; intro w9 hk9 hs9 hbl9 hoth9))
    have HB9 : Hid (Below w.heap.size w w9) := hid (HBr.out.trans (hbl9 w.heap.size (by omega)))
    exact bodyPost_ret (v := .agg #[.int .i64 op, .string ⟨#[]⟩, .int .i64 0, .slice A0 GG.length c0]) (results_cell_row rfl _ _ (w.heap.size + 2) 36 _ (0, 0) _ rfl hk9 Tryz.underlying36 rfl HLR.out) rfl ⟨⟨_, rfl, by rw [HFE.out, HFIN2.out]; exact CnV.make (HRG.out.keep fun b hb hl => ⟨.inr (.inr (by omega)), hoth9 b (by omega)⟩)⟩, HB9.out⟩
end Go.Proofs.YtchkiegehejfmaaGreatDoor
