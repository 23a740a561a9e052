/- The texts Fb, Gr, Ge, Gf, Vc of this proof, one behind the other. -/
import Derived.BigQuiet
import Derived.Deep.QuietTactic
import Derived.Test.YtchkiegehejfmaaGreatDoorMar
import Derived.Test.YtchkiegehejfmaaGreatDoorMao
import Derived.Test.YtchkiegehejfmaaGreatDoorMas
import Derived.Test.YtchkiegehejfmaaGreatDoorMah
import Derived.Test.YtchkiegehejfmaaGreatDoorMai
import Derived.Test.YtchkiegehejfmaaGreatDoorMan
set_option linter.unusedSimpArgs false
set_option maxHeartbeats 16000000
set_option maxRecDepth 100000
/- The text Fb. -/
namespace Go.Proofs.YtchkiegehejfmaaGreatDoor
open Go.RowKit Go.Lib
set_option linter.unusedVariables false
set_option linter.unusedSimpArgs false
theorem take_snocL {α : Type} {s : List α} {k : Nat} {c : α} (h : s[k]? = some c) : s.take (k + 1) = s.take k ++ [c] := by
 obtain ⟨h1, h2⟩ := List.getElem?_eq_some_iff.1 h
 rw [List.take_succ_eq_append_getElem h1, h2]
theorem strL_at {ss : List (List UInt8)} {k : Nat} {v : Value} (h : (strL ss)[k]? = some v) : ∃ x, ss[k]? = some x ∧ v = .string (bstr x) := by
 unfold strL at h
 rw [List.getElem?_map] at h
 cases hq : ss[k]? with
 | none => rw [hq] at h; cases h
 | some x => rw [hq] at h; injection h with h; exact ⟨x, rfl, h.symm⟩
theorem strL_len (ss : List (List UInt8)) : (strL ss).length = ss.length := List.length_map _
theorem rd_strs {w : World} {A : Option Addr} {n : Nat} {ss : List (List UInt8)} (h : Rd w A n (strL ss)) : ss.length = n := by rw [← h.1, strL_len]
theorem rd_str {w : World} {A : Option Addr} {n : Nat} {ss : List (List UInt8)} (h : Rd w A n (strL ss)) {k : Nat} (hk : k < n) : ∃ b off x, A = some ⟨b, off, none⟩ ∧ ss[k]? = some x ∧ w.cell? ⟨b, off + k, none⟩ = some (.string (bstr x)) := by
 obtain ⟨b, off, v, e1, e2, e3⟩ := h.at_ hk
 obtain ⟨x, e4, e5⟩ := strL_at e2
 exact ⟨b, off, x, e1, e4, by rw [e3, e5]⟩
theorem rtexts_any (A B : Option Addr) (n m ca cb : Nat) (a b : List (List UInt8)) (w : World) (ha : Rd w A n (strL a)) (hb : Rd w B m (strL b)) (hn : n ≤ 100000) (hm : m ≤ 100000) :
  Calls Tryz.prog 25 #[.slice A n ca, .slice B m cb] w fun e w' => e = .returned (.bool (decide (a = b))) ∧ ∃ q, w' = w.drewN q := by
 have hla := rd_strs ha
 have hlb := rd_strs hb
 by_cases hnm : n = m
 ·subst hnm
  have HLA := hid hla
  have HLB := hid hlb
  have HA := hid ha
  have HB := hid hb
  clear hla hlb ha hb
  have hne : ((n : Int) != (n : Int)) = false := by rw [bne_eq_false_iff_eq]
  go_enter Tryz.func25, Tryz.ntmps25
  go_wp2_with fail
  go_loopw [5] (fun i wr => ∃ k q : Nat, k ≤ n ∧ i = .int .i64 k ∧ wr = w.drewN q ∧ Hid (a.take k = b.take k)) (fun i _ => n - (RowKit.intOf i).toNat)
  case atStart => exact ⟨0, 0, by omega, rfl, rfl, hid rfl⟩
  case round =>
   obtain ⟨k, q, hk, rfl, rfl, heq⟩ := hrel
   by_cases hlt : k < n
   ·obtain ⟨ba, oa, x, rfl, hx, hcx⟩ := rd_str HA.out hlt
    obtain ⟨bb, ob, y, rfl, hy, hcy⟩ := rd_str HB.out hlt
    have HX := hid hx
    have HY := hid hy
    have hsb := str_beq x y
    by_cases hxy : x = y
    ·have h1 : (!((bstr x).toList == (bstr y).toList)) = false := by rw [hsb, hxy]; simp
     have HXY := hid hxy
     clear hx hy hxy hsb
     generalize bstr x = sx at *
     generalize bstr y = sy at *
     go_wp2_with fail
     go_quiet (fail)
     go_wp2_with fail
     go_roundw
     case rel => exact ⟨k + 1, _, by omega, by go_num, rfl, hid (by rw [take_snocL HX.out, take_snocL HY.out, heq.out, HXY.out])⟩
     case measure => simp [RowKit.intOf]; omega
    ·have h1 : (!((bstr x).toList == (bstr y).toList)) = true := by rw [hsb]; simpa using hxy
     have hd : decide (a = b) = false := decide_eq_false (by
      intro e
      rw [e, hy] at hx
      injection hx with hx
      exact hxy hx.symm)
     have HD := hid hd
     clear hx hy hxy hsb hd
     generalize bstr x = sx at *
     generalize bstr y = sy at *
     go_wp2_with fail
     go_quiet (fail)
     go_wp2_with fail
     go_ret
     exact ⟨ret_bool HD.out.symm, _, World.drewN_drewN _ _ _⟩
   ·obtain rfl : k = n := by omega
    have hd : decide (a = b) = true := decide_eq_true (by
     have := heq.out
     rw [List.take_of_length_le (by rw [HLA.out]; omega), List.take_of_length_le (by rw [HLB.out]; omega)] at this
     exact this)
    have HD := hid hd
    clear hd
    go_wp2_with fail
    go_ret
    exact ⟨ret_bool HD.out.symm, q, rfl⟩
 ·have hne : ((n : Int) != (m : Int)) = true := by rw [bne_iff_ne]; omega
  have hd : decide (a = b) = false := decide_eq_false (by intro e; apply hnm; rw [← hla, ← hlb, e])
  rw [hd]
  clear hd hla hlb ha hb
  go_enter Tryz.func25, Tryz.ntmps25
  go_wp2_with fail
  go_ret
  exact ⟨rfl, 0, rfl⟩
end Go.Proofs.YtchkiegehejfmaaGreatDoor
/- The text Gr. -/
namespace Go.Proofs.YtchkiegehejfmaaGreatDoor
open Go.RowKit Go.Lib
set_option linter.unusedVariables false
set_option linter.unusedSimpArgs false
theorem rsamerule_eq (ok ok' : Nat → Prop) (x : Pr.Rl) (X Y : Array Value) (w : World) (hx : RlV w ok X x) (hy : RlV w ok' Y x) (hn : Pr.nodes x.wh ≤ 1000000) (hd : x.acts.length ≤ 100000) : Calls Tryz.prog 33 #[.agg X, .agg Y] w fun e w' => e = .returned (.bool true) ∧ Below w.heap.size w w' := by
 have hb1 := (Below.refl w.heap.size w).alloc (Nat.le_refl _) (.cells X 45)
 have hb2 := (Below.refl (w.alloc (.cells X 45)).heap.size (w.alloc (.cells X 45))).alloc (Nat.le_refl _) (.cells Y 45)
 have HB2 := hid (hb1.alloc (by rw [World.size_alloc]; exact Nat.le_succ _) (.cells Y 45))
 obtain ⟨A, cap, D, dcap, hdc, hru⟩ := RuX.new hx
 obtain ⟨A', cap', D', dcap', hdc', hru'⟩ := RuX.new (hy.bel hb1)
 have HX := hid (hru.bel hb2)
 rw [World.size_alloc] at hru'
 have HY := hid hru'
 clear hx hy hb1 hb2 hru hru'
 generalize hw1 : (w.alloc (.cells X 45)).alloc (.cells Y 45) = w1 at *
 have h10 := HX.out.nm
 have h20 := HY.out.nm
 have hrx := HX.out.wh
 have hry := HY.out.wh
 have HSZ : Hid ((Tryz.prog.info? 36).map (·.size) = some ([.int .i64 x.wh.op, .string (bstr x.wh.text), .int .i64 x.wh.num, .slice A x.wh.kids.length cap] : List Value).length) := hid (by rw [size_cond]; rfl)
 have HSY : Hid ((Tryz.prog.info? 36).map (·.size) = some ([.int .i64 x.wh.op, .string (bstr x.wh.text), .int .i64 x.wh.num, .slice A' x.wh.kids.length cap'] : List Value).length) := hid (by rw [size_cond]; rfl)
 have HSAME := rsame_any (Pr.nodes x.wh) ok ok' x.wh x.wh _ _ w1 (Nat.le_refl _) hn HX.out.cn HY.out.cn
 rw [Pr.same_self] at HSAME
 have HSM := hid HSAME
 clear HSAME
 have heq : ((bstr x.name).toList == (bstr x.name).toList) = true := beq_self_eq_true _
 generalize bstr x.name = NM at *
 go_enter Tryz.func33, Tryz.ntmps33
 go_wp2_with (first
  | (refine load_mid_w (by rfl) 36 _ rfl w.heap.size 1 rfl _ _ hrx Tryz.underlying36 rfl HSZ.out ?_)
  | (refine load_mid_w (by rfl) 36 _ rfl (w.heap.size + 1) 1 rfl _ _ hry Tryz.underlying36 rfl HSY.out ?_)
  | (go_at_call 17; refine HSM.out.mono ?_; rintro e w3 ⟨rfl, hb3⟩; have HB3 := hid (HB2.out.trans (hb3.mono HB2.out.size)); have h15 := (HX.out.bel hb3).dl; have h25 := (HY.out.bel hb3).dl; have HRD := hid (rtexts_any D D' x.acts.length x.acts.length dcap dcap' x.acts x.acts w3 (HX.out.bel hb3).rd (HY.out.bel hb3).rd hd hd); clear hb3)
  | (go_at_call 25; refine HRD.out.mono ?_; rintro e w4 ⟨rfl, q, rfl⟩; have htr : decide (x.acts = x.acts) = true := decide_eq_true rfl))
 go_ret
 exact ⟨rfl, below_drewN HB3.out _⟩
theorem rsamerules_eq (ok ok' : Nat → Prop) (l : List Pr.Rl) (A B : Option Addr) (cap cap' : Nat) (w : World) (hx : RlRow w ok A l) (hy : RlRow w ok' B l) (hln : l.length ≤ 1000000) (hn : ∀ x ∈ l, Pr.nodes x.wh ≤ 1000000 ∧ x.acts.length ≤ 100000) : Calls Tryz.prog 10 #[.slice A l.length cap, .slice B l.length cap'] w fun e w' => e = .returned (.bool true) ∧ Below w.heap.size w w' := by
 have HX := hid hx
 have HY := hid hy
 have HN := hid hn
 clear hx hy hn
 go_enter Tryz.func10, Tryz.ntmps10
 go_wp2_with fail
 go_loopw [5] (fun ix wr => ∃ k : Nat, k ≤ l.length ∧ ix = .int .i64 (k : Int) ∧ Below w.heap.size w wr) (fun ix _ => l.length - (RowKit.intOf ix).toNat)
 case atStart => exact ⟨0, Nat.zero_le _, rfl, Below.refl _ _⟩
 case round =>
  obtain ⟨k, hk, rfl, hb⟩ := hrel
  have HB := hid hb
  have hws := hb.size
  clear hb
  by_cases hlt : k < l.length
  ·obtain ⟨x, hx⟩ : ∃ x, l[k]? = some x := ⟨_, List.getElem?_eq_getElem hlt⟩
   obtain ⟨b, off, cs, rfl, hok, hr, hcl, hcv⟩ := (HX.out.bel HB.out) k x hx
   obtain ⟨b', off', cs', rfl, hok', hr', hcl', hcv'⟩ := (HY.out.bel HB.out) k x hx
   have HNX := hid (HN.out x (List.mem_of_getElem? hx))
   have hone := hcv.one
   have hone' := hcv'.one
   have HCV := hid hcv
   have HCV' := hid hcv'
   have HL2 : Hid ((Tryz.prog.info? 45).map (·.size) = some cs.length) := hid (by rw [size_rule, hcl])
   have HL3 : Hid ((Tryz.prog.info? 45).map (·.size) = some cs'.length) := hid (by rw [size_rule, hcl'])
   have hkI : (k : Int) < (l.length : Int) := by omega
   have HS : Hid (wr.rangeAt b (off + k * 6) cs ∧ wr.rangeAt b' (off' + k * 6) cs') := hid ⟨hr, hr'⟩
   have hbl := range_lt hr (by omega)
   have hbl' := range_lt hr' (by omega)
   clear hx hcv hcv' hr hr'
   go_wp2_with fail
   refine wp_region_noPanic ?_
   refine wp_region_held_drew (S := fun W => W.rangeAt b (off + k * 6) cs ∧ W.rangeAt b' (off' + k * 6) cs') (by kernel_rfl) (HS.out) (fun hHeld => ?_)
   refine wpAnyH_take (i := 0) (oi := _) (v := ?_) rfl (by kernel_rfl) (by kernel_rfl) (by kernel_rfl) (fun _ _ _ h => h) (Or.inl ⟨by kernel_rfl, ?_⟩) hHeld ?_
   rotate_left
   ·intro wq hSw
    go_simp
    (try with_reducible rfl)
   (try simp only [Act.put, List.getElem_toArray, List.getElem_cons_zero, List.getElem_cons_succ, List.setIfInBounds_toArray, List.set_cons_zero, List.set_cons_succ])
   refine wpAnyH_take (i := 1) (oi := _) (v := ?_) rfl (by kernel_rfl) (by kernel_rfl) (by kernel_rfl) (fun _ _ _ h => h) (Or.inl ⟨by kernel_rfl, ?_⟩) hHeld ?_
   rotate_left
   ·intro wq hSw
    go_simp
    (try with_reducible rfl)
   (try simp only [Act.put, List.getElem_toArray, List.getElem_cons_zero, List.getElem_cons_succ, List.setIfInBounds_toArray, List.set_cons_zero, List.set_cons_succ])
   refine wpAnyH_take (i := 2) (oi := _) (v := ?_) rfl (by kernel_rfl) (by kernel_rfl) (by kernel_rfl) (fun _ _ _ h => h) (Or.inl ⟨by kernel_rfl, ?_⟩) hHeld ?_
   rotate_left
   ·intro wq hSw
    go_simp
    (try with_reducible rfl)
   (try simp only [Act.put, List.getElem_toArray, List.getElem_cons_zero, List.getElem_cons_succ, List.setIfInBounds_toArray, List.set_cons_zero, List.set_cons_succ])
   refine wpAnyH_take (i := 3) (oi := _) (v := _) rfl (by kernel_rfl) (by kernel_rfl) (by kernel_rfl) (fun _ _ _ h => h) (mid_yields rfl Tryz.underlying45 HL2.out (fun W h => h.1) (by kernel_rfl) _ rfl rfl) hHeld ?_
   (try simp only [Act.put, List.getElem_toArray, List.getElem_cons_zero, List.getElem_cons_succ, List.setIfInBounds_toArray, List.set_cons_zero, List.set_cons_succ])
   refine wpAnyH_take (i := 4) (oi := _) (v := ?_) rfl (by kernel_rfl) (by kernel_rfl) (by kernel_rfl) (fun _ _ _ h => h) (Or.inl ⟨by kernel_rfl, ?_⟩) hHeld ?_
   rotate_left
   ·intro wq hSw
    go_simp
    (try with_reducible rfl)
   (try simp only [Act.put, List.getElem_toArray, List.getElem_cons_zero, List.getElem_cons_succ, List.setIfInBounds_toArray, List.set_cons_zero, List.set_cons_succ])
   refine wpAnyH_take (i := 5) (oi := _) (v := ?_) rfl (by kernel_rfl) (by kernel_rfl) (by kernel_rfl) (fun _ _ _ h => h) (Or.inl ⟨by kernel_rfl, ?_⟩) hHeld ?_
   rotate_left
   ·intro wq hSw
    go_simp
    (try with_reducible rfl)
   (try simp only [Act.put, List.getElem_toArray, List.getElem_cons_zero, List.getElem_cons_succ, List.setIfInBounds_toArray, List.set_cons_zero, List.set_cons_succ])
   refine wpAnyH_take (i := 6) (oi := _) (v := ?_) rfl (by kernel_rfl) (by kernel_rfl) (by kernel_rfl) (fun _ _ _ h => h) (Or.inl ⟨by kernel_rfl, ?_⟩) hHeld ?_
   rotate_left
   ·intro wq hSw
    go_simp
    (try with_reducible rfl)
   (try simp only [Act.put, List.getElem_toArray, List.getElem_cons_zero, List.getElem_cons_succ, List.setIfInBounds_toArray, List.set_cons_zero, List.set_cons_succ])
   refine wpAnyH_take (i := 7) (oi := _) (v := _) rfl (by kernel_rfl) (by kernel_rfl) (by kernel_rfl) (fun _ _ _ h => h) (mid_yields rfl Tryz.underlying45 HL3.out (fun W h => h.2) (by kernel_rfl) _ rfl rfl) hHeld ?_
   (try simp only [Act.put, List.getElem_toArray, List.getElem_cons_zero, List.getElem_cons_succ, List.setIfInBounds_toArray, List.set_cons_zero, List.set_cons_succ])
   refine wpAnyH_ready (rs := [8]) (by kernel_rfl) (by simp) ?_
   refine AllReadyH.cons (o := _) rfl (fun K hK => ?_) AllReadyH.nil
   go_simp
   go_at_call 33
   refine (rsamerule_eq ok ok' x cs.toArray cs'.toArray wr.drew (HCV.out.bel (Below.refl _ _).drew) (HCV'.out.bel (Below.refl _ _).drew) HNX.out.1 HNX.out.2).mono ?_
   rintro e w4 ⟨rfl, hb4⟩
   have hn4 : Below wr.heap.size wr w4 := (Below.refl wr.heap.size wr).drew.trans hb4
   have HB4 := hid (HB.out.trans (hn4.mono hws))
   refine hK.out _ _ (⟨range_keep HS.out.1 (hn4.block _ hbl), range_keep HS.out.2 (hn4.block _ hbl')⟩) (fun hHeld2 => ?_)
   clear hK K hHeld
   have hHeld := hHeld2
   clear hHeld2
   (try simp only [Act.put, List.getElem_toArray, List.getElem_cons_zero, List.getElem_cons_succ, List.setIfInBounds_toArray, List.set_cons_zero, List.set_cons_succ])
   refine wpAnyH_take (i := 9) (oi := _) (v := ?_) rfl (by kernel_rfl) (by kernel_rfl) (by kernel_rfl) (fun _ _ _ h => h) (Or.inl ⟨by kernel_rfl, ?_⟩) hHeld ?_
   rotate_left
   ·intro wq hSw
    go_simp
    (try with_reducible rfl)
   (try simp only [Act.put, List.getElem_toArray, List.getElem_cons_zero, List.getElem_cons_succ, List.setIfInBounds_toArray, List.set_cons_zero, List.set_cons_succ])
   refine wpAnyH_done (by kernel_rfl) ?_ _
   refine NoPanic.normal ?_
   go_wp2_with fail
   go_roundw
   case rel => exact ⟨k + 1, hlt, by go_num, HB4.out⟩
   case measure => simp [RowKit.intOf]; omega
  ·obtain rfl : k = l.length := by omega
   go_wp2_with fail
   go_ret
   exact ⟨rfl, HB.out⟩
end Go.Proofs.YtchkiegehejfmaaGreatDoor
/- The text Ge. -/
namespace Pr
theorem wordc_ends (c : UInt8) : wordc c = !(endsB c.toNat) := by
 unfold wordc endsB markOf
 by_cases h1 : c = 32
 ·subst h1; rfl
 by_cases h2 : c = 40
 ·subst h2; rfl
 by_cases h3 : c = 41
 ·subst h3; rfl
 by_cases h4 : c = 44
 ·subst h4; rfl
 by_cases h5 : c = 34
 ·subst h5; rfl
 have hn : ∀ d : UInt8, c ≠ d → c.toNat ≠ d.toNat := fun d h e => h (UInt8.toNat_inj.1 e)
 have e1 := hn 32 h1
 have e2 := hn 40 h2
 have e3 := hn 41 h3
 have e4 := hn 44 h4
 have e5 := hn 34 h5
 have f1 : c.toNat ≠ 32 := e1
 have f2 : c.toNat ≠ 40 := e2
 have f3 : c.toNat ≠ 41 := e3
 have f4 : c.toNat ≠ 44 := e4
 have f5 : c.toNat ≠ 34 := e5
 rw [if_neg h2, if_neg h3, if_neg h4, beq_eq_false_iff_ne.2 f1, beq_eq_false_iff_ne.2 f2, beq_eq_false_iff_ne.2 f3, beq_eq_false_iff_ne.2 f4, beq_eq_false_iff_ne.2 f5, bne, bne, beq_eq_false_iff_ne.2 h1, beq_eq_false_iff_ne.2 h5]
 rfl
end Pr
namespace Go.Proofs.YtchkiegehejfmaaGreatDoor
open Go.RowKit Go.Lib
set_option linter.unusedVariables false
set_option linter.unusedSimpArgs false
def kdOf (f : Int) : Int := if f = 1 then 119 else if f = 2 then 115 else if f = 3 then 40 else if f = 4 then 41 else if f = 5 then 44 else 0
def rkV (t : Pr.Tk) : List Value := [.int .u8 (kdOf t.form), .string (bstr t.text)]
def rkL (L : List Pr.Tk) : List Value := L.flatMap rkV
theorem rkL_app (a b : List Pr.Tk) : rkL (a ++ b) = rkL a ++ rkL b := List.flatMap_append
theorem rkL_len : ∀ L : List Pr.Tk, (rkL L).length = L.length * 2
 | [] => rfl
 | t :: L => by
  have := rkL_len L
  unfold rkL at *
  rw [List.flatMap_cons, List.length_append, this, List.length_cons]
  show 2 + _ = _
  omega
theorem info_rk : (Tryz.prog.info? 98).map (fun i => (i.zero, i.size, i.bytes)) = some (some (.agg #[.int .u8 0, .string ByteArray.empty]), 2, 24) := by kernel_rfl
theorem size_rk : (Tryz.prog.info? 98).map (·.size) = some 2 := by kernel_rfl
theorem rowRk : RowU 93 98 2 24 := ⟨Tryz.underlying93, ⟨_, info_rk, rfl⟩, by decide, by decide⟩
theorem rkV_one (f : Int) (t : List UInt8) : ∀ u ∈ ([.int .u8 f, .string (bstr t)] : List Value), u.oneCell' = true := by intro u hu; simp at hu; rcases hu with rfl | rfl <;> rfl
theorem rd_rk (w : World) (f : Int) (t : List UInt8) : Rd (w.alloc (.cells #[.int .u8 f, .string (bstr t)] 98)) (some ⟨w.heap.size, 0, none⟩) (1 * 2) [.int .u8 f, .string (bstr t)] := Rd.of_blk (vs := [.int .u8 f, .string (bstr t)]) (Blk.new w 98 #[.int .u8 f, .string (bstr t)])
theorem own_rk {w : World} {base : Nat} {v : Value} {acc : List Pr.Tk} {f k : Int} {t : List UInt8} (hk : kdOf f = k) (h : w.ownsRow base 98 2 v (acc.length + 1) (rkL acc ++ [.int .u8 k, .string (bstr t)])) : w.ownsRow base 98 2 v (acc ++ [(⟨f, t⟩ : Pr.Tk)]).length (rkL (acc ++ [(⟨f, t⟩ : Pr.Tk)])) := by
 subst hk
 rw [List.length_append, rkL_app]; exact h
def RkA (w w' : World) (e : Ending) : Option (List Pr.Tk) → Prop
 | none => e = .returned (.tuple #[.slice none 0 0, .bool false])
 | some L => ∃ A cap, e = .returned (.tuple #[.slice A L.length cap, .bool true]) ∧ w'.ownsRow w.heap.size 98 2 (.slice A L.length cap) L.length (rkL L)
theorem RkA.bad {w w' : World} {x : Option (List Pr.Tk)} (h : none = x) : RkA w w' (.returned (.tuple #[.slice none 0 0, .bool false])) x := by subst h; exact rfl
theorem RkA.good {w w' : World} {A : Option Addr} {cap : Nat} {L : List Pr.Tk} {x : Option (List Pr.Tk)} (h : some L = x) (ho : w'.ownsRow w.heap.size 98 2 (.slice A L.length cap) L.length (rkL L)) : RkA w w' (.returned (.tuple #[.slice A L.length cap, .bool true])) x := by
 subst h
 exact ⟨A, cap, rfl, ho⟩
theorem bstr_app (a b : List UInt8) : bstr a ++ bstr b = bstr (a ++ b) := by
 apply str_eq
 simp [bstr]
theorem slice_at (S : ByteArray) (a b : Int) (j : Nat) (ha : a = j) (hb : b = (j : Int) + 1) (h : j < S.size) (W : World) : (Instr.slice 9 (.string S) (some (.int .i64 a)) (some (.int .i64 b)) none).run Tryz.prog W = .ok (.string (bstr [S[j]])) W := by
 subst ha hb
 have e : S.extract (j : Int).toNat ((j : Int) + 1).toNat = bstr [S[j]] := by
  rw [show (j : Int).toNat = j from rfl, show ((j : Int) + 1).toNat = j + 1 by omega]
  exact str_eq (by rw [extract_list, drop_at S j h, show j + 1 - j = 1 by omega]; rfl)
 rw [run_slice_string (P := Tryz.prog) (w := W) 9 S .i64 .i64 (j : Int) ((j : Int) + 1) Tryz.underlying9 (by omega) (by omega) (by omega), e]
theorem kd_mark {c : UInt8} (h : Pr.markOf c ≠ 0) : kdOf (Pr.markOf c) = (c.toNat : Int) := by
 unfold Pr.markOf at *
 split at h
 ·rename_i e; subst e; rfl
 ·split at h
  ·rename_i e; subst e; rfl
  ·split at h
   ·rename_i e; subst e; rfl
   ·exact absurd rfl h
theorem rtokens_any (S : ByteArray) (w : World) (hs : S.size ≤ 1000000) :
  Calls Tryz.prog 64 #[.string S] w fun e w' => RkA w w' e (Pr.tkz S.data.toList) ∧ Below w.heap.size w w' := by
 have HDA : Hid (∀ k (h : k < S.size), S.data.toList.drop k = S[k] :: S.data.toList.drop (k + 1)) := hid (drop_at S)
 have HDE : Hid (∀ k, S.size ≤ k → S.data.toList.drop k = []) := hid (drop_end S)
 have HAT : Hid (∀ k (h : k < S.size), S.data.toList[k]? = some S[k]) := hid (at_str S)
 have HLE : Hid (S.data.toList.length = S.size) := hid (str_size S).symm
 have HEX : Hid (∀ a b, S.extract a b = bstr ((S.data.toList.drop a).take (b - a))) := hid (fun a b => str_eq (by rw [extract_list]; rfl))
 have HM := hid (fun n W => rends_any n W)
 obtain ⟨X, hX⟩ : ∃ X, Pr.tkz S.data.toList = X := ⟨_, rfl⟩
 have HX : Hid (Pr.tkA [] (S.data.toList.drop 0) = X) := hid (by rw [← hX, List.drop_zero]; unfold Pr.tkA; cases Pr.tkz S.data.toList <;> rfl)
 rw [hX]
 clear hX
 go_enter Tryz.func64, Tryz.ntmps64
 go_wp2_with fail
 go_loopw [4, 5] (fun out ix wr => ∃ (k : Nat) (acc : List Pr.Tk), k ≤ S.size ∧ ix = .int .i64 k ∧ wr.ownsRow w.heap.size 98 2 out acc.length (rkL acc) ∧ Hid (Pr.tkA acc (S.data.toList.drop k) = X) ∧ acc.length ≤ k ∧ Below w.heap.size w wr) (fun _ ix _ => S.size - (RowKit.intOf ix).toNat)
 case atStart => exact ⟨0, [], Nat.zero_le _, rfl, World.ownsRow_nil w w.heap.size 98 2, HX, Nat.le_refl _, Below.refl _ _⟩
 case round =>
  obtain ⟨k, acc, hk, rfl, ho, hrl, hol, hb⟩ := hrel
  have HO := hid ho
  have HB := hid hb
  have hbs := hb.size
  obtain ⟨A, cap, rfl, -⟩ := own_at ho
  clear ho hb
  by_cases hlt : k < S.size
  ·have hdl := HDA.out k hlt
   have hc2 := (S[k]'hlt).toNat_lt
   by_cases h32 : S[k]'hlt = 32
   ·have hx := u8_eq (n := 32) rfl h32
    have HT : Hid (Pr.tkA acc (S.data.toList.drop (k + 1)) = X) := hid (by rw [← hrl.out, hdl, h32]; unfold Pr.tkA; rw [Pr.tkz_blank])
    clear hdl h32
    go_wp2_with fail
    go_roundw
    case rel => exact ⟨k + 1, acc, by omega, by go_num, HO.out, HT, by omega, HB.out⟩
    case measure => simp [RowKit.intOf]; omega
   have hx := u8_ne (n := 32) rfl h32
   by_cases hmk : Pr.markOf (S[k]'hlt) ≠ 0
   ·have HT : Hid (Pr.tkA (acc ++ [⟨Pr.markOf (S[k]'hlt), []⟩]) (S.data.toList.drop (k + 1)) = X) := hid (by rw [← hrl.out, hdl, Pr.tkA_cons (Pr.tkz_mark _ _ hmk)])
    have HKD := hid (kd_mark hmk)
    have HB2 := hid (HB.out.alloc hbs (.cells #[.int .u8 ((S[k]'hlt).toNat : Int), .string (bstr [])] 98))
    have HO2 := hid (own_bel HO.out ((Below.refl wr.heap.size wr).alloc (Nat.le_refl _) (.cells #[.int .u8 ((S[k]'hlt).toNat : Int), .string (bstr [])] 98)))
    have hs8 : w.heap.size ≤ (wr.alloc (.cells #[.int .u8 ((S[k]'hlt).toNat : Int), .string (bstr [])] 98)).heap.size := HB2.out.size
    have hcc : S[k]'hlt = 40 ∨ S[k]'hlt = 41 ∨ S[k]'hlt = 44 := by
     unfold Pr.markOf at hmk
     split at hmk
     ·exact .inl (by assumption)
     ·split at hmk
      ·exact .inr (.inl (by assumption))
      ·split at hmk
       ·exact .inr (.inr (by assumption))
       ·exact absurd rfl hmk
    clear hdl h32 hmk
    rcases hcc with h40 | h41 | h44
    ·have hz := u8_eq (n := 40) rfl h40
     clear h40
     go_wp2_with (first | (at_builtin; refine app_row rowRk rfl _ _ rfl _ (.slice A acc.length cap) acc.length (rkL acc) _ w.heap.size rfl HO2.out _ 1 1 rfl (rd_rk wr _ []) (rkV_one _ []) hs8 (by omega) ?_; intro v2 w3 ho3 hg3 hb3 hw3))
     go_roundw
     case rel => exact ⟨k + 1, acc ++ [⟨Pr.markOf (S[k]'hlt), []⟩], by omega, by go_num, own_rk HKD.out ho3, HT, by rw [List.length_append]; simp; omega, hb3 _ HB2.out⟩
     case measure => simp [RowKit.intOf]; omega
    ·have hz0 := u8_ne (n := 40) rfl (show S[k]'hlt ≠ 40 by rw [h41]; decide)
     have hz := u8_eq (n := 41) rfl h41
     clear h41
     go_wp2_with (first | (at_builtin; refine app_row rowRk rfl _ _ rfl _ (.slice A acc.length cap) acc.length (rkL acc) _ w.heap.size rfl HO2.out _ 1 1 rfl (rd_rk wr _ []) (rkV_one _ []) hs8 (by omega) ?_; intro v2 w3 ho3 hg3 hb3 hw3))
     go_roundw
     case rel => exact ⟨k + 1, acc ++ [⟨Pr.markOf (S[k]'hlt), []⟩], by omega, by go_num, own_rk HKD.out ho3, HT, by rw [List.length_append]; simp; omega, hb3 _ HB2.out⟩
     case measure => simp [RowKit.intOf]; omega
    ·have hz0 := u8_ne (n := 40) rfl (show S[k]'hlt ≠ 40 by rw [h44]; decide)
     have hz1 := u8_ne (n := 41) rfl (show S[k]'hlt ≠ 41 by rw [h44]; decide)
     have hz := u8_eq (n := 44) rfl h44
     clear h44
     go_wp2_with (first | (at_builtin; refine app_row rowRk rfl _ _ rfl _ (.slice A acc.length cap) acc.length (rkL acc) _ w.heap.size rfl HO2.out _ 1 1 rfl (rd_rk wr _ []) (rkV_one _ []) hs8 (by omega) ?_; intro v2 w3 ho3 hg3 hb3 hw3))
     go_roundw
     case rel => exact ⟨k + 1, acc ++ [⟨Pr.markOf (S[k]'hlt), []⟩], by omega, by go_num, own_rk HKD.out ho3, HT, by rw [List.length_append]; simp; omega, hb3 _ HB2.out⟩
     case measure => simp [RowKit.intOf]; omega
   have hm0 : Pr.markOf (S[k]'hlt) = 0 := Classical.not_not.1 hmk
   have hz40 := u8_ne (n := 40) rfl (show S[k]'hlt ≠ 40 from fun e => by rw [e] at hm0; cases hm0)
   have hz41 := u8_ne (n := 41) rfl (show S[k]'hlt ≠ 41 from fun e => by rw [e] at hm0; cases hm0)
   have hz44 := u8_ne (n := 44) rfl (show S[k]'hlt ≠ 44 from fun e => by rw [e] at hm0; cases hm0)
   by_cases h34 : S[k]'hlt = 34
   ·have hy := u8_eq (n := 34) rfl h34
    obtain ⟨QX, hQX⟩ : ∃ QX, Pr.quoteP [] (S.data.toList.drop (k + 1)) = QX := ⟨_, rfl⟩
    have HQX := hid hQX
    have HQN : Hid (QX = none → none = X) := hid (fun h => by rw [← hrl.out, hdl, h34]; unfold Pr.tkA; rw [Pr.tkz_q0 _ (by rw [hQX, h])]; rfl)
    have HQS : Hid (∀ t q, QX = some (t, q) → Pr.tkA (acc ++ [⟨2, t⟩]) q = X) := hid (fun t q h => by rw [← hrl.out, hdl, h34, Pr.tkA_cons (Pr.tkz_q1 _ _ _ (by rw [hQX, h]))])
    clear hdl h34 h32 hmk hm0 hQX
    go_wp2_with fail
    go_loop [5, 7] (fun ix tx => ∃ (j : Nat) (tl : List UInt8), k < j ∧ j ≤ S.size ∧ ix = .int .i64 j ∧ tx = .string (bstr tl) ∧ Hid (Pr.quoteP tl (S.data.toList.drop j) = QX) ∧ tl.length ≤ j) (fun ix _ => S.size - (RowKit.intOf ix).toNat)
    case atStart => exact ⟨k + 1, [], by omega, by omega, by go_num, rfl, HQX, by simp⟩
    case round =>
     obtain ⟨j, tl, hkj, hj, rfl, rfl, hq, htl⟩ := hrel
     have htz : (bstr tl).size = tl.length := bstr_size tl
     by_cases hlj : j < S.size
     ·have hdj := HDA.out j hlj
      have hcj := (S[j]'hlj).toNat_lt
      by_cases h34 : S[j]'hlj = 34
      ·have hy2 := u8_beq (n := 34) rfl h34
       have HT : Hid (Pr.tkA (acc ++ [⟨2, tl⟩]) (S.data.toList.drop (j + 1)) = X) := hid (HQS.out tl _ (by rw [← hq.out, hdj, quote_hit _ _ h34]))
       have HB8 := hid (HB.out.alloc hbs (.cells #[.int .u8 115, .string (bstr tl)] 98))
       have HO8 := hid (own_bel HO.out ((Below.refl wr.heap.size wr).alloc (Nat.le_refl _) (.cells #[.int .u8 115, .string (bstr tl)] 98)))
       have hs8 : w.heap.size ≤ (wr.alloc (.cells #[.int .u8 115, .string (bstr tl)] 98)).heap.size := HB8.out.size
       have hjq : ((j : Int) == (S.size : Int)) = false := beq_eq_false_iff_ne.2 (by omega)
       have hjn : (j == S.size) = false := beq_eq_false_iff_ne.2 (by omega)
       clear hdj h34 htz
       go_wp2_with (first | (at_builtin; refine app_row rowRk rfl _ _ rfl _ (.slice A acc.length cap) acc.length (rkL acc) _ w.heap.size rfl HO8.out _ 1 1 rfl (rd_rk wr 115 tl) (rkV_one 115 tl) hs8 (by omega) ?_; intro v2 w3 ho3 hg3 hb3 hw3))
       go_roundw
       case rel => exact ⟨j + 1, acc ++ [⟨2, tl⟩], by omega, by go_num, own_rk rfl ho3, HT, by rw [List.length_append]; simp; omega, hb3 _ HB8.out⟩
       case measure => simp [RowKit.intOf]; omega
      ·have hy2 := u8_bne (n := 34) rfl h34
       by_cases h92 : S[j]'hlj = 92
       ·have hx2 := u8_eq (n := 92) rfl h92
        by_cases hj1 : j + 1 < S.size
        ·have hdl2 := HDA.out (j + 1) hj1
         have hd2 := (S[j + 1]'hj1).toNat_lt
         have hjq : ((j : Int) + 1 == (S.size : Int)) = false := beq_eq_false_iff_ne.2 (by omega)
         have hjn : (j + 1 == S.size) = false := beq_eq_false_iff_ne.2 (by omega)
         have hsl := slice_at S ((j : Int) + 1) ((j : Int) + 1 + 1) (j + 1) (by omega) (by omega) hj1
         have hone : (bstr [S[j + 1]'hj1]).size = 1 := rfl
         have hsum : bstr tl ++ bstr [S[j + 1]'hj1] = bstr (tl ++ [S[j + 1]'hj1]) := bstr_app ..
         have hp9 : ¬ 9223372036854775807 < (bstr tl).size + 1 := by rw [htz]; omega
         by_cases hd : S[j + 1]'hj1 = 34 ∨ S[j + 1]'hj1 = 92
         ·have HT : Hid (Pr.quoteP (tl ++ [S[j + 1]'hj1]) (S.data.toList.drop (j + 1 + 1)) = QX) := hid (by rw [← hq.out, hdj, hdl2, quote_esc2 _ _ h92 hd])
          rcases hd with hd | hd
          ·have hu := u8_beq (n := 34) rfl hd
           clear hdj hdl2 h34 h92 hd htz
           go_wp2_with fail
           go_round
           case rel => exact ⟨j + 1 + 1, tl ++ [S[j + 1]'hj1], by omega, by omega, by go_num, rfl, HT, by rw [List.length_append]; simp; omega⟩
           case measure => simp [RowKit.intOf]; omega
          ·have hu := u8_bne (n := 34) rfl (show S[j + 1]'hj1 ≠ 34 by rw [hd]; decide)
           have hv := u8_beq (n := 92) rfl hd
           clear hdj hdl2 h34 h92 hd htz
           go_wp2_with fail
           go_round
           case rel => exact ⟨j + 1 + 1, tl ++ [S[j + 1]'hj1], by omega, by omega, by go_num, rfl, HT, by rw [List.length_append]; simp; omega⟩
           case measure => simp [RowKit.intOf]; omega
         ·have HE : Hid (none = X) := hid (HQN.out (by rw [← hq.out, hdj, hdl2, quote_esc3 _ _ h92 hd]))
          have hu := u8_bne (n := 34) rfl (fun e => hd (.inl e))
          have hv := u8_bne (n := 92) rfl (fun e => hd (.inr e))
          clear hdj hdl2 h34 h92 hd htz
          go_wp2_with fail
          go_ret2
          exact ⟨RkA.bad HE.out, HB.out⟩
        ·have HE : Hid (none = X) := hid (HQN.out (by rw [← hq.out, hdj, HDE.out (j + 1) (by omega), quote_esc1 _ h92]))
         have hjq : ((j : Int) + 1 == (S.size : Int)) = true := beq_iff_eq.2 (by omega)
         have hjn : (j + 1 == S.size) = true := beq_iff_eq.2 (by omega)
         clear hdj h34 h92 htz
         go_wp2_with fail
         go_ret2
         exact ⟨RkA.bad HE.out, HB.out⟩
       ·have hx2 := u8_ne (n := 92) rfl h92
        have HT : Hid (Pr.quoteP (tl ++ [S[j]'hlj]) (S.data.toList.drop (j + 1)) = QX) := hid (by rw [← hq.out, hdj, quote_go _ _ h34 h92])
        have hsl := slice_at S (j : Int) ((j : Int) + 1) j rfl rfl hlj
        have hone : (bstr [S[j]'hlj]).size = 1 := rfl
        have hsum : bstr tl ++ bstr [S[j]'hlj] = bstr (tl ++ [S[j]'hlj]) := bstr_app ..
        have hp9 : ¬ 9223372036854775807 < (bstr tl).size + 1 := by rw [htz]; omega
        clear hdj h34 h92 htz
        go_wp2_with fail
        go_round
        case rel => exact ⟨j + 1, tl ++ [S[j]'hlj], by omega, by omega, by go_num, rfl, HT, by rw [List.length_append]; simp; omega⟩
        case measure => simp [RowKit.intOf]; omega
     ·obtain rfl : j = S.size := by omega
      have HE : Hid (none = X) := hid (HQN.out (by rw [← hq.out, HDE.out _ (Nat.le_refl _), quote_end]))
      clear htz
      go_wp2_with fail
      go_ret2
      exact ⟨RkA.bad HE.out, HB.out⟩
   ·have hy := u8_ne (n := 34) rfl h34
    have HW : Hid (Pr.wordc (S[k]'hlt) = true) := hid (Pr.wordc_of h32 hmk h34)
    have HDL := hid hdl
    clear hdl h34 h32 hmk hm0
    go_wp2_with fail
    go_loopw [8] (fun ix wq => ∃ j : Nat, k ≤ j ∧ j ≤ S.size ∧ ix = .int .i64 j ∧ wr = wq ∧ Hid (∀ c ∈ (S.data.toList.drop k).take (j - k), Pr.wordc c = true)) (fun ix _ => S.size - (RowKit.intOf ix).toNat)
    case atStart => exact ⟨k, Nat.le_refl _, hk, rfl, rfl, hid (by rw [Nat.sub_self]; simp)⟩
    case round =>
     obtain ⟨j, hkj, hj, rfl, rfl, hall⟩ := hrel
     by_cases hltj : j < S.size
     ·have HMJ := hid (fun W => HM.out (S[j]'hltj).toNat W)
      have hwe := Pr.wordc_ends (S[j]'hltj)
      cases hwj : Pr.endsB (S[j]'hltj).toNat with
      | false =>
       rw [hwj] at HMJ hwe
       have HN : Hid (∀ c ∈ (S.data.toList.drop k).take (j + 1 - k), Pr.wordc c = true) := hid (by
        have := Pr.while_next hall.out (k := j - k) (c := S[j]'hltj) (by rw [List.getElem?_drop, show k + (j - k) = j by omega]; exact HAT.out j hltj) hwe
        rwa [show j - k + 1 = j + 1 - k by omega] at this)
       clear hwj hwe
       go_wp2_with (go_at_call 113; refine (HMJ.out _).mono ?_; rintro e w' ⟨rfl, rfl⟩)
       go_roundw
       case rel => exact ⟨j + 1, by omega, by omega, by go_num, by trivial, HN⟩
       case measure => simp [RowKit.intOf]; omega
      | true =>
       rw [hwj] at HMJ hwe
       have hwf : Pr.wordc (S[j]'hltj) = false := hwe
       have HSTOP : Hid (∀ c, (S.data.toList.drop k)[j - k]? = some c → Pr.wordc c = false) := hid (fun c hc => by
        rw [List.getElem?_drop, show k + (j - k) = j by omega, HAT.out j hltj] at hc
        injection hc with hc
        rw [← hc]
        exact hwf)
       obtain ⟨h3, h4⟩ := Pr.while_of (p := Pr.wordc) (l := S.data.toList.drop k) (k := j - k) hall.out HSTOP.out
       have hkj2 : k < j := by
        rcases Nat.lt_or_ge k j with h | h
        ·exact h
        ·have : j = k := by omega
         subst this
         exfalso
         have h5 := HSTOP.out (S[j]'hlt) (by rw [Nat.sub_self, List.getElem?_drop, Nat.add_zero]; exact HAT.out j hlt)
         rw [HW.out] at h5
         cases h5
       have HT : Hid (Pr.tkA (acc ++ [⟨1, (S.data.toList.drop k).take (j - k)⟩]) (S.data.toList.drop j) = X) := hid (by
        rw [HDL.out] at h3 h4
        rw [← hrl.out, HDL.out, Pr.tkA_cons (Pr.tkz_w _ _ HW.out), h3, h4, ← HDL.out, List.drop_drop, show k + (j - k) = j by omega])
       have hxs := HEX.out k j
       obtain ⟨t, ht⟩ : ∃ t, (S.data.toList.drop k).take (j - k) = t := ⟨_, rfl⟩
       rw [ht] at HT hxs
       have HB8 := hid (HB.out.alloc hbs (.cells #[.int .u8 119, .string (bstr t)] 98))
       have HO8 := hid (own_bel HO.out ((Below.refl wr.heap.size wr).alloc (Nat.le_refl _) (.cells #[.int .u8 119, .string (bstr t)] 98)))
       have hs8 : w.heap.size ≤ (wr.alloc (.cells #[.int .u8 119, .string (bstr t)] 98)).heap.size := HB8.out.size
       clear h3 h4 ht
       clear hwj hwe hwf
       go_wp2_with (first
        | (go_at_call 113; refine (HMJ.out _).mono ?_; rintro e w' ⟨rfl, rfl⟩)
        | (at_builtin; refine app_row rowRk rfl _ _ rfl _ (.slice A acc.length cap) acc.length (rkL acc) _ w.heap.size rfl HO8.out _ 1 1 rfl (rd_rk wr 119 t) (rkV_one 119 t) hs8 (by omega) ?_; intro v2 w3 ho3 hg3 hb3 hw3))
       go_roundw
       case rel => exact ⟨j, acc ++ [⟨1, t⟩], hj, by go_num, own_rk rfl ho3, HT, by rw [List.length_append]; simp; omega, hb3 _ HB8.out⟩
       case measure => simp [RowKit.intOf]; omega
     ·have HSTOP : Hid (∀ c, (S.data.toList.drop k)[j - k]? = some c → Pr.wordc c = false) := hid (fun c hc => by
       rw [List.getElem?_drop, show k + (j - k) = j by omega] at hc
       have := (List.getElem?_eq_some_iff.1 hc).1
       rw [HLE.out] at this
       omega)
      obtain ⟨h3, h4⟩ := Pr.while_of (p := Pr.wordc) (l := S.data.toList.drop k) (k := j - k) hall.out HSTOP.out
      have hkj2 : k < j := by
       rcases Nat.lt_or_ge k j with h | h
       ·exact h
       ·have : j = k := by omega
        subst this
        exfalso
        have h5 := HSTOP.out (S[j]'hlt) (by rw [Nat.sub_self, List.getElem?_drop, Nat.add_zero]; exact HAT.out j hlt)
        rw [HW.out] at h5
        cases h5
      have HT : Hid (Pr.tkA (acc ++ [⟨1, (S.data.toList.drop k).take (j - k)⟩]) (S.data.toList.drop j) = X) := hid (by
       rw [HDL.out] at h3 h4
       rw [← hrl.out, HDL.out, Pr.tkA_cons (Pr.tkz_w _ _ HW.out), h3, h4, ← HDL.out, List.drop_drop, show k + (j - k) = j by omega])
      have hxs := HEX.out k j
      obtain ⟨t, ht⟩ : ∃ t, (S.data.toList.drop k).take (j - k) = t := ⟨_, rfl⟩
      rw [ht] at HT hxs
      have HB8 := hid (HB.out.alloc hbs (.cells #[.int .u8 119, .string (bstr t)] 98))
      have HO8 := hid (own_bel HO.out ((Below.refl wr.heap.size wr).alloc (Nat.le_refl _) (.cells #[.int .u8 119, .string (bstr t)] 98)))
      have hs8 : w.heap.size ≤ (wr.alloc (.cells #[.int .u8 119, .string (bstr t)] 98)).heap.size := HB8.out.size
      clear h3 h4 ht
      go_wp2_with (first
       | (at_builtin; refine app_row rowRk rfl _ _ rfl _ (.slice A acc.length cap) acc.length (rkL acc) _ w.heap.size rfl HO8.out _ 1 1 rfl (rd_rk wr 119 t) (rkV_one 119 t) hs8 (by omega) ?_; intro v2 w3 ho3 hg3 hb3 hw3))
      go_roundw
      case rel => exact ⟨j, acc ++ [⟨1, t⟩], hj, by go_num, own_rk rfl ho3, HT, by rw [List.length_append]; simp; omega, hb3 _ HB8.out⟩
      case measure => simp [RowKit.intOf]; omega
  ·have HE : Hid (some acc = X) := hid (by rw [← hrl.out, HDE.out k (by omega), Pr.tkA_nil])
   go_wp2_with fail
   go_ret2
   exact ⟨RkA.good HE.out HO.out, HB.out⟩
end Go.Proofs.YtchkiegehejfmaaGreatDoor
/- The text Gf. -/
namespace Go.Proofs.YtchkiegehejfmaaGreatDoor
open Go.RowKit Go.Lib
set_option linter.unusedVariables false
set_option linter.unusedSimpArgs false
theorem rkL_at : ∀ (L : List Pr.Tk) (i : Nat) (t : Pr.Tk), L[i]? = some t → (rkL L)[i * 2]? = some (.int .u8 (kdOf t.form)) ∧ (rkL L)[i * 2 + 1]? = some (.string (bstr t.text))
 | [], i, t, h => by cases h
 | a :: L, 0, t, h => by injection h with h; subst h; exact ⟨rfl, rfl⟩
 | a :: L, i + 1, t, h => by
  obtain ⟨h1, h2⟩ := rkL_at L i t h
  have e : rkL (a :: L) = .int .u8 (kdOf a.form) :: .string (bstr a.text) :: rkL L := rfl
  rw [e, show (i + 1) * 2 = i * 2 + 1 + 1 by omega]
  exact ⟨h1, h2⟩
theorem hd_drop {L : List Pr.Tk} {i : Nat} {t : Pr.Tk} (h : L[i]? = some t) : Pr.hdT (L.drop i) = t := by
 obtain ⟨h1, h2⟩ := List.getElem?_eq_some_iff.1 h
 rw [List.drop_eq_getElem_cons h1, h2]
 rfl
theorem rk_at {w : World} {A : Option Addr} {L : List Pr.Tk} {i : Nat} (h : Rd w A (L.length * 2) (rkL L)) (hi : i < L.length) : ∃ b off, A = some ⟨b, off, none⟩ ∧ w.rangeAt b (off + i * 2) [.int .u8 (kdOf (Pr.hdT (L.drop i)).form), .string (bstr (Pr.hdT (L.drop i)).text)] := by
 obtain ⟨t, ht⟩ : ∃ t, L[i]? = some t := ⟨_, List.getElem?_eq_getElem hi⟩
 obtain ⟨h1, h2⟩ := rkL_at L i t ht
 rw [hd_drop ht]
 obtain ⟨b1, o1, e1, c1⟩ := h.2 _ _ h1
 obtain ⟨b2, o2, e2, c2⟩ := h.2 _ _ h2
 rw [e1] at e2
 injection e2 with e2
 injection e2 with e2 e2' _
 subst e2 e2'
 refine ⟨b1, o1, e1, fun j v hj => ?_⟩
 match j, hj with
 | 0, hj => injection hj with hj; subst hj; exact c1
 | 1, hj => injection hj with hj; subst hj; exact c2
 | n + 2, hj => simp at hj
theorem rat_any (A : Option Addr) (cap : Nat) (L : List Pr.Tk) (i : Nat) (w : World) (h : Rd w A (L.length * 2) (rkL L)) (hL : L.length ≤ 1000000) (hi : i ≤ 2000000) :
  Calls Tryz.prog 66 #[.slice A L.length cap, .int .i64 (i : Int)] w fun e w' => e = .returned (.agg #[.int .u8 (kdOf (Pr.hdT (L.drop i)).form), .string (bstr (Pr.hdT (L.drop i)).text)]) ∧ Below w.heap.size w w' := by
 by_cases hlt : i < L.length
 ·obtain ⟨b, off, rfl, hr⟩ := rk_at h hlt
  have HR := hid (fun W (hb : Below w.heap.size w W) => range_keep hr (hb.block _ (range_lt hr (by simp))))
  have hlI : (i : Int) < (L.length : Int) := by omega
  generalize kdOf (Pr.hdT (L.drop i)).form = kd at *
  generalize bstr (Pr.hdT (L.drop i)).text = tx at *
  have hr2 := HR.out (w.alloc (.cells #[.int .u8 0, .string ⟨#[]⟩] 98)) ((Below.refl _ _).alloc (Nat.le_refl _) _)
  have HL2 : Hid ((Tryz.prog.info? 98).map (·.size) = some ([.int .u8 kd, .string tx] : List Value).length) := hid size_rk
  clear h hr
  go_enter Tryz.func66, Tryz.ntmps66
  go_wp2_with ((with_reducible refine wpList_load_mid rfl 98 _ rfl b (off + i * 2) ?_ _ _ hr2 Tryz.underlying98 ?_ HL2.out ?_); rfl; rfl)
  exact bodyPost_ret (v := .agg #[.int .u8 kd, .string tx]) (results_cell_row rfl _ _ w.heap.size 98 _ (0, 0) _ rfl (Blk.new w _ _) Tryz.underlying98 rfl (by rw [size_rk]; rfl)) rfl ⟨rfl, (Below.refl _ w).alloc (Nat.le_refl _) _⟩
 ·have e : L.drop i = [] := List.drop_of_length_le (by omega)
  have hlI : ¬ (i : Int) < (L.length : Int) := by omega
  rw [e]
  clear e h
  go_enter Tryz.func66, Tryz.ntmps66
  go_wp2_with fail
  exact bodyPost_ret (v := .agg #[.int .u8 0, .string ⟨#[]⟩]) (results_cell_row rfl _ _ w.heap.size 98 _ (0, 0) _ rfl (Blk.new w _ _) Tryz.underlying98 rfl (by rw [size_rk]; rfl)) rfl ⟨rfl, (Below.refl _ w).alloc (Nat.le_refl _) _⟩
theorem kd_word (f : Int) : (kdOf f == 119) = (f == 1) := by
 unfold kdOf
 by_cases h1 : f = 1
 ·subst h1; rfl
 rw [if_neg h1]
 by_cases h2 : f = 2
 ·subst h2; rfl
 rw [if_neg h2]
 by_cases h3 : f = 3
 ·subst h3; rfl
 rw [if_neg h3]
 by_cases h4 : f = 4
 ·subst h4; rfl
 rw [if_neg h4]
 by_cases h5 : f = 5
 ·subst h5; rfl
 rw [if_neg h5, beq_eq_false_iff_ne.2 h1]
 rfl
theorem ris_any (s : List UInt8) (A : Option Addr) (cap : Nat) (L : List Pr.Tk) (i : Nat) (w : World) (h : Rd w A (L.length * 2) (rkL L)) (hL : L.length ≤ 1000000) (hi : i ≤ 2000000) :
  Calls Tryz.prog 65 #[.slice A L.length cap, .int .i64 (i : Int), .string (bstr s)] w fun e w' => e = .returned (.bool (Pr.headIs s (L.drop i))) ∧ Below w.heap.size w w' := by
 have HA := hid (rat_any A cap L i w h hL hi)
 rw [Pr.headIs_hd]
 generalize Pr.hdT (L.drop i) = t at *
 have hk := kd_word t.form
 have hs := str_beq t.text s
 generalize (t.text == s) = tb at *
 generalize (t.form == 1) = fb at *
 generalize kdOf t.form = kd at *
 generalize bstr t.text = tx at *
 generalize bstr s = sx at *
 clear h
 cases fb <;> cases tb
 all_goals
  go_enter Tryz.func65, Tryz.ntmps65
  go_wp2_with fail
  refine HA.out.mono ?_
  rintro e w2 ⟨rfl, hb2⟩
  have HB2 := hid (hb2.alloc hb2.size (.cells #[.int .u8 kd, .string tx] 98))
  clear hb2
  go_wp2_with fail
  go_ret
  exact ⟨rfl, HB2.out⟩
end Go.Proofs.YtchkiegehejfmaaGreatDoor
/- The text Vc. -/
namespace Go.Proofs.YtchkiegehejfmaaGreatDoor
open Go.RowKit Go.Lib
set_option linter.unusedVariables false
theorem neg_rem (A : Nat) : Int.tmod (-(A : Int)) 10 = -((A % 10 : Nat) : Int) := by rw [Int.neg_tmod, Int.tmod_eq_emod_of_nonneg (by omega)]; omega
theorem neg_quo (A : Nat) : Int.tdiv (-(A : Int)) 10 = -((A / 10 : Nat) : Int) := by rw [Int.neg_tdiv, Int.tdiv_eq_ediv_of_nonneg (by omega)]; omega
theorem dig_byte2 (d : Nat) (h : d < 10) : IntKind.u8.wrap (48 + (d : Int)) = ((UInt8.ofNat (48 + d)).toNat : Int) := by rw [(Ar.dig_of d h).2, IntKind.wrap_u8]; omega
def DgR (A u : Nat) (acc : List UInt8) : Prop := Ar.digs A = (if u = 0 then [] else Ar.digs u) ++ acc
theorem DgR.first (A : Nat) : DgR A (A / 10) [UInt8.ofNat (48 + A % 10)] := by
 unfold DgR
 by_cases h : A < 10
 ·rw [Ar.digs_small A h, if_pos (by omega), Nat.mod_eq_of_lt h]; rfl
 ·rw [Ar.digs_step A (by omega), if_neg (by omega)]
theorem DgR.next {A u : Nat} {acc : List UInt8} (h : DgR A u acc) (hu : u ≠ 0) : DgR A (u / 10) (UInt8.ofNat (48 + u % 10) :: acc) := by
 have h1 : DgR u (u / 10) [UInt8.ofNat (48 + u % 10)] := DgR.first u
 unfold DgR at *
 rw [h, if_neg hu, h1]
 simp
theorem DgR.last {A : Nat} {acc : List UInt8} (h : DgR A 0 acc) : Ar.digs A = acc := by unfold DgR at h; rw [h, if_pos rfl]; rfl
theorem DgR.len {A u : Nat} {acc : List UInt8} (h : DgR A u acc) (hA : A ≤ 9223372036854775808) : acc.length ≤ 19 := by
 have h1 := digs_len 18 A (by omega)
 unfold DgR at h
 rw [h, List.length_append] at h1
 omega
theorem conv_one (W : World) (c : UInt8) : (convert 54 9 (.slice (some ⟨W.heap.size, 0, none⟩) 1 1)).run Tryz.prog (W.alloc (.cells #[.int .u8 (c.toNat : Int)] 5)) = .ok (.string (bstr [c])) (W.alloc (.cells #[.int .u8 (c.toNat : Int)] 5)) := conv_own (own_lit8 W c)
theorem rtext_any (n : Int) (w : World) (hn : Ar.inInt n) : Calls Tryz.prog 82 #[.int .i64 n] w fun e w' => e = .returned (.string (bstr (Ar.itoa n))) ∧ Below w.heap.size w w' := by
 obtain ⟨hn1, hn2⟩ := hn
 obtain ⟨A, hA⟩ : ∃ A, n.natAbs = A := ⟨_, rfl⟩
 have hA9 : A ≤ 9223372036854775808 := by omega
 have hq0 := neg_quo A
 have hr0 := neg_rem A
 obtain ⟨d0, hd0⟩ : ∃ d, A % 10 = d := ⟨_, rfl⟩
 have hdl : d0 < 10 := by omega
 have hb0 := dig_byte2 d0 hdl
 have HF := hid (DgR.first A)
 rw [hd0] at hr0 HF
 obtain ⟨c, hc⟩ : ∃ c, UInt8.ofNat (48 + d0) = c := ⟨_, rfl⟩
 rw [hc] at hb0 HF
 obtain ⟨A1, hA1⟩ : ∃ A1, A / 10 = A1 := ⟨_, rfl⟩
 rw [hA1] at hq0 HF
 have hA1l : A1 ≤ 922337203685477580 := by omega
 have hcv0 := conv_one w c
 clear hc hd0 hA1
 by_cases h0 : n < 0
 ·have HI : Hid (Ar.itoa n = 45 :: Ar.digs A) := hid (by unfold Ar.itoa; rw [if_pos h0, hA])
  obtain rfl : n = -(A : Int) := by omega
  have h1 : decide ((A : Int) < 0) = false := decide_eq_false (by omega)
  have h2 : 0 < A := by omega
  clear hA h0
  go_enter Tryz.func82, Tryz.ntmps82
  go_wp2_with fail
  have HB1 := hid ((Below.refl w.heap.size w).alloc (Nat.le_refl _) (.cells #[.int .u8 (c.toNat : Int)] 5))
  generalize hw1 : w.alloc (.cells #[.int .u8 (c.toNat : Int)] 5) = w1 at *
  clear hw1 hr0 hq0 hb0 hcv0
  go_loopw [3, 4] (fun lx sx wr => ∃ (u : Nat) (acc : List UInt8), lx = .int .i64 (-(u : Int)) ∧ sx = .string (bstr acc) ∧ u ≤ 922337203685477580 ∧ DgR A u acc ∧ Below w.heap.size w wr) (fun lx _ _ => (RowKit.intOf lx).natAbs)
  case atStart => exact ⟨A1, [c], rfl, rfl, hA1l, HF.out, HB1.out⟩
  case round =>
   obtain ⟨u, acc, rfl, rfl, hul, hd, hb⟩ := hrel
   have hlen := hd.len hA9
   have HD := hid hd
   have HB := hid hb
   have hbs := hb.size
   clear hd hb
   by_cases hu : u = 0
   ·subst hu
    have HE : Hid (Ar.itoa (-(A : Int)) = 45 :: acc) := hid (by rw [HI.out, HD.out.last])
    rw [show -((0 : Nat) : Int) = 0 from rfl]
    have hss : (bstr acc).size = acc.length := bstr_size acc
    have hov : ¬ 9223372036854775807 < 1 + (bstr acc).size := by omega
    clear HD HI HF HB1
    go_wp2_with fail
    go_ret
    exact ⟨ret_str (by rw [HE.out]; exact str_eq (by simp [bstr])), HB.out⟩
   ·have HN := hid (HD.out.next hu)
    have hu0 : ¬ (-(u : Int) = 0) := by omega
    have hq := neg_quo u
    have hr := neg_rem u
    obtain ⟨d, hd⟩ : ∃ d, u % 10 = d := ⟨_, rfl⟩
    have hdl2 : d < 10 := by omega
    have hbt := dig_byte2 d hdl2
    rw [hd] at hr HN
    obtain ⟨c2, hc2⟩ : ∃ c, UInt8.ofNat (48 + d) = c := ⟨_, rfl⟩
    rw [hc2] at hbt HN
    obtain ⟨u1, hu1⟩ : ∃ u1, u / 10 = u1 := ⟨_, rfl⟩
    have HLT : Hid (u1 < u) := hid (by omega)
    have hu1l : u1 ≤ 922337203685477580 := by omega
    rw [hu1] at hq HN
    have hcv := conv_one wr c2
    have HS : Hid (bstr [c2] ++ bstr acc = bstr (c2 :: acc)) := hid (str_eq (by simp [bstr]))
    have hsz : (bstr acc).size = acc.length := bstr_size acc
    have hsz1 : (bstr [c2]).size = 1 := bstr_size [c2]
    have hov : ¬ 9223372036854775807 < (bstr [c2]).size + (bstr acc).size := by omega
    clear hd hc2 hu1
    generalize hK1 : bstr [c2] = K1 at *
    generalize hK2 : bstr acc = K2 at *
    go_wp2_with fail
    go_roundw
    case rel => exact ⟨u1, c2 :: acc, rfl, by rw [← HS.out], hu1l, HN.out, HB.out.alloc hbs _⟩
    case measure => have := HLT.out; simp [RowKit.intOf]; omega
 ·have HI : Hid (Ar.itoa n = Ar.digs A) := hid (by unfold Ar.itoa; rw [if_neg h0, hA])
  obtain rfl : n = (A : Int) := by omega
  have h2 : decide ((A : Int) < 0) = false := decide_eq_false h0
  clear hA h0
  by_cases hz : A = 0
  ·have h1 : ¬ 0 < A := by omega
   rw [show -(A : Int) = (A : Int) from by omega] at hq0 hr0
   clear hz
   go_enter Tryz.func82, Tryz.ntmps82
   go_wp2_with fail
   have HB1 := hid ((Below.refl w.heap.size w).alloc (Nat.le_refl _) (.cells #[.int .u8 (c.toNat : Int)] 5))
   generalize hw1 : w.alloc (.cells #[.int .u8 (c.toNat : Int)] 5) = w1 at *
   clear hw1 hr0 hq0 hb0 hcv0
   go_loopw [3, 4] (fun lx sx wr => ∃ (u : Nat) (acc : List UInt8), lx = .int .i64 (-(u : Int)) ∧ sx = .string (bstr acc) ∧ u ≤ 922337203685477580 ∧ DgR A u acc ∧ Below w.heap.size w wr) (fun lx _ _ => (RowKit.intOf lx).natAbs)
   case atStart => exact ⟨A1, [c], rfl, rfl, hA1l, HF.out, HB1.out⟩
   case round =>
    obtain ⟨u, acc, rfl, rfl, hul, hd, hb⟩ := hrel
    have hlen := hd.len hA9
    have HD := hid hd
    have HB := hid hb
    have hbs := hb.size
    clear hd hb
    by_cases hu : u = 0
    ·subst hu
     have HE : Hid (Ar.itoa (A : Int) = acc) := hid (by rw [HI.out, HD.out.last])
     rw [show -((0 : Nat) : Int) = 0 from rfl]
     have hss : (bstr acc).size = acc.length := bstr_size acc
     have h3 : decide ((A : Int) < 0) = false := decide_eq_false (by omega)
     clear HD HI HF HB1
     go_wp2_with fail
     go_ret
     exact ⟨ret_str (by rw [HE.out]), HB.out⟩
    ·have HN := hid (HD.out.next hu)
     have hu0 : ¬ (-(u : Int) = 0) := by omega
     have hq := neg_quo u
     have hr := neg_rem u
     obtain ⟨d, hd⟩ : ∃ d, u % 10 = d := ⟨_, rfl⟩
     have hdl2 : d < 10 := by omega
     have hbt := dig_byte2 d hdl2
     rw [hd] at hr HN
     obtain ⟨c2, hc2⟩ : ∃ c, UInt8.ofNat (48 + d) = c := ⟨_, rfl⟩
     rw [hc2] at hbt HN
     obtain ⟨u1, hu1⟩ : ∃ u1, u / 10 = u1 := ⟨_, rfl⟩
     have HLT : Hid (u1 < u) := hid (by omega)
     have hu1l : u1 ≤ 922337203685477580 := by omega
     rw [hu1] at hq HN
     have hcv := conv_one wr c2
     have HS : Hid (bstr [c2] ++ bstr acc = bstr (c2 :: acc)) := hid (str_eq (by simp [bstr]))
     have hsz : (bstr acc).size = acc.length := bstr_size acc
     have hsz1 : (bstr [c2]).size = 1 := bstr_size [c2]
     have hov : ¬ 9223372036854775807 < (bstr [c2]).size + (bstr acc).size := by omega
     clear hd hc2 hu1
     generalize hK1 : bstr [c2] = K1 at *
     generalize hK2 : bstr acc = K2 at *
     go_wp2_with fail
     go_roundw
     case rel => exact ⟨u1, c2 :: acc, rfl, by rw [← HS.out], hu1l, HN.out, HB.out.alloc hbs _⟩
     case measure => have := HLT.out; simp [RowKit.intOf]; omega
  ·have h1 : 0 < A := by omega
   clear hz
   go_enter Tryz.func82, Tryz.ntmps82
   go_wp2_with fail
   have HB1 := hid ((Below.refl w.heap.size w).alloc (Nat.le_refl _) (.cells #[.int .u8 (c.toNat : Int)] 5))
   generalize hw1 : w.alloc (.cells #[.int .u8 (c.toNat : Int)] 5) = w1 at *
   clear hw1 hr0 hq0 hb0 hcv0
   go_loopw [3, 4] (fun lx sx wr => ∃ (u : Nat) (acc : List UInt8), lx = .int .i64 (-(u : Int)) ∧ sx = .string (bstr acc) ∧ u ≤ 922337203685477580 ∧ DgR A u acc ∧ Below w.heap.size w wr) (fun lx _ _ => (RowKit.intOf lx).natAbs)
   case atStart => exact ⟨A1, [c], rfl, rfl, hA1l, HF.out, HB1.out⟩
   case round =>
    obtain ⟨u, acc, rfl, rfl, hul, hd, hb⟩ := hrel
    have hlen := hd.len hA9
    have HD := hid hd
    have HB := hid hb
    have hbs := hb.size
    clear hd hb
    by_cases hu : u = 0
    ·subst hu
     have HE : Hid (Ar.itoa (A : Int) = acc) := hid (by rw [HI.out, HD.out.last])
     rw [show -((0 : Nat) : Int) = 0 from rfl]
     have hss : (bstr acc).size = acc.length := bstr_size acc
     have h3 : decide ((A : Int) < 0) = false := decide_eq_false (by omega)
     clear HD HI HF HB1
     go_wp2_with fail
     go_ret
     exact ⟨ret_str (by rw [HE.out]), HB.out⟩
    ·have HN := hid (HD.out.next hu)
     have hu0 : ¬ (-(u : Int) = 0) := by omega
     have hq := neg_quo u
     have hr := neg_rem u
     obtain ⟨d, hd⟩ : ∃ d, u % 10 = d := ⟨_, rfl⟩
     have hdl2 : d < 10 := by omega
     have hbt := dig_byte2 d hdl2
     rw [hd] at hr HN
     obtain ⟨c2, hc2⟩ : ∃ c, UInt8.ofNat (48 + d) = c := ⟨_, rfl⟩
     rw [hc2] at hbt HN
     obtain ⟨u1, hu1⟩ : ∃ u1, u / 10 = u1 := ⟨_, rfl⟩
     have HLT : Hid (u1 < u) := hid (by omega)
     have hu1l : u1 ≤ 922337203685477580 := by omega
     rw [hu1] at hq HN
     have hcv := conv_one wr c2
     have HS : Hid (bstr [c2] ++ bstr acc = bstr (c2 :: acc)) := hid (str_eq (by simp [bstr]))
     have hsz : (bstr acc).size = acc.length := bstr_size acc
     have hsz1 : (bstr [c2]).size = 1 := bstr_size [c2]
     have hov : ¬ 9223372036854775807 < (bstr [c2]).size + (bstr acc).size := by omega
     clear hd hc2 hu1
     generalize hK1 : bstr [c2] = K1 at *
     generalize hK2 : bstr acc = K2 at *
     go_wp2_with fail
     go_roundw
     case rel => exact ⟨u1, c2 :: acc, rfl, by rw [← HS.out], hu1l, HN.out, HB.out.alloc hbs _⟩
     case measure => have := HLT.out; simp [RowKit.intOf]; omega
end Go.Proofs.YtchkiegehejfmaaGreatDoor
