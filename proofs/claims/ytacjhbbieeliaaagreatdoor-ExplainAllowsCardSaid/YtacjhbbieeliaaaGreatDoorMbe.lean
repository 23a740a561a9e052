/- The texts Kn, Ko of this proof, one behind the other. -/
import Derived.Deep.CutBlock
import Derived.Deep.CutRange
import Derived.Test.YtacjhbbieeliaaaGreatDoorMbd
set_option linter.unusedSimpArgs false
set_option maxHeartbeats 16000000
set_option maxRecDepth 100000
set_option linter.unusedVariables false
/- The text Kn. -/
namespace Go.Proofs.YtacjhbbieeliaaaGreatDoor
open Go.RowKit Go.Lib
set_option linter.unusedVariables false
set_option linter.unusedSimpArgs false
theorem info_intU : (Tryz.prog.info? 3).map (fun i => (i.zero, i.size, i.bytes)) = some (some (.int .i64 0), 1, 8) := by kernel_rfl
theorem rowIntU : RowU 23 3 1 8 := ⟨Tryz.underlying23, ⟨_, info_intU, rfl⟩, by decide, by decide⟩
def IntO (w : World) (base B : Nat) (v : Value) (L : List Int) : Prop := w.ownsRow base 3 1 v L.length (intL L) ∧ some B ≠ v.ownBlock
theorem grown_bel {w w' : World} (hb : Below w.heap.size w w') : w.grownBy w' none := ⟨hb.os, hb.tape, hb.output, hb.size, fun k hk _ => hb.block k hk⟩
theorem own_grown {w w' : World} {base size n : Nat} {e : TypeId} {v : Value} {xs : List Value} {row : Option Nat} (h : w.ownsRow base e size v n xs) (hg : w.grownBy w' row) (hne : v.ownBlock = none ∨ v.ownBlock ≠ row) : w'.ownsRow base e size v n xs := by
 obtain ⟨h1, h2⟩ := h
 refine ⟨h1, ?_⟩
 rcases h2 with h2 | ⟨k, cap, cur, rfl, hk, hh, hn, hcap, hsz, ht⟩
 ·exact .inl h2
 ·refine .inr ⟨k, cap, cur, rfl, hk, (hg.block k (Array.getElem?_eq_some_iff.1 hh).1 ?_).trans hh, hn, hcap, hsz, ht⟩
  rcases hne with h | h
  ·cases h
  ·exact h
section
variable {w w' : World} {base B n : Nat} {far : Co.Far} {v : Value} {L : List Int} {ops : Array Oper} {rest : List Oper} {o : Oper} {a : Act} {Q : Exit → Act → World → Prop}
theorem IntO.nil (w : World) (base B : Nat) : IntO w base B (.slice none 0 0) [] := ⟨World.ownsRow_nil .., by simp [Value.ownBlock]⟩
theorem IntO.bel (h : IntO w base B v L) (hb : Below w.heap.size w w') : IntO w' base B v L := ⟨own_bel h.1 hb, h.2⟩
theorem IntO.grown (h : IntO w base B v L) (hg : w.grownBy w' (some B)) : IntO w' base B v L := ⟨own_grown h.1 hg (.inr fun e => h.2 e.symm), h.2⟩
theorem IntO.at_ (h : IntO w base B v L) : ∃ A cap, v = .slice A L.length cap ∧ L.length ≤ cap ∧ Rd w A L.length (intL L) := by
 obtain ⟨A, cap, e, h1, h2, -⟩ := own_at h.1
 exact ⟨A, cap, e, h1, by rw [Nat.mul_one] at h2; exact h2⟩
theorem IntO.get {A : Option Addr} {cap k : Nat} {x : Int} (h : IntO w base B (.slice A L.length cap) L) (hx : L[k]? = some x) : ∃ g o, A = some ⟨g, o, none⟩ ∧ w.cell? ⟨g, o + k, none⟩ = some (.int .i64 x) := by
 obtain ⟨A', cap', e, -, hr⟩ := h.at_
 have e2 : A = A' := by injection e
 subst e2
 exact hr.2 k _ (intL_at hx)
theorem app_int (hgd : o.guard = none) (s x : Operand) (ho : o.op = .call { callee := .builtin .append, args := #[s, x], argTypes := #[23, 23] })
  (wr : World) (y : Int) (hs : a.eval s = v) (hown : IntO wr base B v L) (hx : a.eval x = .slice (some ⟨wr.heap.size, 0, none⟩) 1 1) (hbase : base ≤ wr.heap.size) (hB : B < wr.heap.size) (hlen : L.length ≤ 1000000000)
  (h : ∀ v' w', IntO w' base B v' (L ++ [y]) → (∀ m far, FarM wr B m far → FarM w' B m far) → (∀ w0, Below base w0 wr → Below base w0 w') → wpList Tryz.prog ops Q rest (a.put o.dst v') w') :
  wpList Tryz.prog ops Q (o :: rest) a (wr.alloc (.cells #[.int .i64 y] 3)) := by
 have hba := (Below.refl wr.heap.size wr).alloc (Nat.le_refl _) (.cells #[.int .i64 y] 3)
 refine app_row rowIntU hgd s x ho (wr.alloc (.cells #[.int .i64 y] 3)) v L.length (intL L) [.int .i64 y] base hs (own_bel hown.1 hba) (some ⟨wr.heap.size, 0, none⟩) 1 1 hx ⟨rfl, fun j u hj => ⟨wr.heap.size, 0, rfl, by rw [Nat.zero_add, (Blk.new wr 3 #[.int .i64 y]).cell j, List.getElem?_toArray]; exact hj⟩⟩ (fun u hu => by rw [List.mem_singleton.1 hu]; rfl) (by simp; omega) (by omega) (fun v' w' h1 h2 h3 h4 => ?_)
 refine h v' w' ⟨by rw [List.length_append, show intL (L ++ [y]) = intL L ++ [.int .i64 y] from List.map_append]; exact h1, ?_⟩ (fun m far hf => (hf.bel hba).kept h2 hown.2) (fun w0 hb => h3 w0 (hb.alloc hbase _))
 rcases h4 with h4 | h4
 ·rw [h4]; exact hown.2
 ·rw [h4]; simp; omega
theorem far_make {t : TypeId} (hg : o.guard = none) (hop : o.op = .makeMap t none) (hK : wpList Tryz.prog ops Q rest (a.put o.dst (.map (some w.heap.size))) (w.alloc (.map #[] 0))) : wpList Tryz.prog ops Q (o :: rest) a w := by
 refine wpList_plain hg fun K' hK' => ?_
 unfold Oper.wp
 simp [execOp, hop, run_makeMap, Result.andThen]
 exact hK' _ _ hK
theorem far_lookS (hg : o.guard = none) (m x : Operand) (hop : o.op = .lookup 120 m x true) (hm : a.eval m = .map (some B)) (h : FarM w B n far) (id : Int) (hx : a.eval x = .int .i64 id) (hw : W64 id) {d : Nat} (hd : far id = some d)
  (hK : wpList Tryz.prog ops Q rest (a.put o.dst (.tuple #[.int .i64 (d : Int), .bool true])) w) : wpList Tryz.prog ops Q (o :: rest) a w := far_look hg m x hop hm h id hx hw (by rw [hd]; exact hK)
theorem far_lookN (hg : o.guard = none) (m x : Operand) (hop : o.op = .lookup 120 m x true) (hm : a.eval m = .map (some B)) (h : FarM w B n far) (id : Int) (hx : a.eval x = .int .i64 id) (hw : W64 id) (hd : far id = none)
  (hK : wpList Tryz.prog ops Q rest (a.put o.dst (.tuple #[.int .i64 0, .bool false])) w) : wpList Tryz.prog ops Q (o :: rest) a w := far_look hg m x hop hm h id hx hw (by rw [hd]; exact hK)
end
theorem get_own {l : List Co.Ev} {k : Nat} {x : Co.Ev} (h : l[k]? = some x) : ∃ y, Co.getE l x.id = some y ∧ y ∈ l ∧ y.id = x.id ∧ Co.authOf l x.id = y.auth := by
 have hs : (Co.getE l x.id).isSome = true := Co.get_known.2 (List.mem_map.2 ⟨x, List.mem_of_getElem? h, rfl⟩)
 obtain ⟨y, hy⟩ := Option.isSome_iff_exists.1 hs
 refine ⟨y, hy, List.mem_of_find?_eq_some hy, by simpa using List.find?_some hy, ?_⟩
 unfold Co.authOf
 rw [hy]
def fdP (l : List Co.Ev) (far : Co.Far) (n : Nat) (x : Int) : Bool := (far x).isNone && (Co.authOf l x).any fun a => far a == some (n - 1)
theorem found_is (l : List Co.Ev) (far : Co.Far) (n : Nat) : Co.found l far n = (Co.idsOf l).filter (fdP l far n) := rfl
theorem fd_step {l : List Co.Ev} {far : Co.Far} {n k : Nat} {x : Co.Ev} (h : l[k]? = some x) : (Co.idsOf (l.take (k + 1))).filter (fdP l far n) = (Co.idsOf (l.take k)).filter (fdP l far n) ++ (if fdP l far n x.id then [x.id] else []) := by
 unfold Co.idsOf
 rw [List.take_add_one, h, List.map_append, List.filter_append]
 cases hp : fdP l far n x.id <;> simp [hp]
theorem fd_len (l : List Co.Ev) (far : Co.Far) (n k : Nat) : ((Co.idsOf (l.take k)).filter (fdP l far n)).length ≤ l.length := by
 refine Nat.le_trans (List.length_filter_le _ _) ?_
 unfold Co.idsOf
 rw [List.length_map, List.length_take]
 omega
theorem upd_nil (far : Co.Far) (n : Nat) : Co.upd far [] n = far := by funext x; simp [Co.upd]
theorem upd_step {far : Co.Far} {L : List Int} {n k : Nat} {x : Int} (h : L[k]? = some x) : (fun y => if y = x then some n else Co.upd far (L.take k) n y) = Co.upd far (L.take (k + 1)) n := by
 funext y
 unfold Co.upd
 rw [List.take_add_one, h]
 by_cases h1 : y = x
 ·subst h1; simp
 ·rw [if_neg h1]
  have : (y ∈ L.take k ++ (some x).toList) ↔ y ∈ L.take k := by simp [h1]
  by_cases h2 : y ∈ L.take k
  ·rw [if_pos h2, if_pos (this.2 h2)]
  ·rw [if_neg h2, if_neg (fun h => h2 (this.1 h))]
theorem any_step {p : Int → Bool} {L : List Int} {k : Nat} {x : Int} (h : L[k]? = some x) (h1 : (L.take k).any p = false) (h2 : p x = false) : (L.take (k + 1)).any p = false := by
 rw [List.take_add_one, h, List.any_append, h1]
 simp [h2]
theorem dist_go {l : List Co.Ev} {far R : Co.Far} {n : Nat} (h : Co.distF l (Co.unk l far + 1) n far = R) (he : Co.found l far n ≠ []) : Co.distF l (Co.unk l (Co.upd far (Co.found l far n) n) + 1) (n + 1) (Co.upd far (Co.found l far n) n) = R := by
 rw [← h]
 conv => rhs; unfold Co.distF
 rw [if_neg he]
 exact Co.distF_more l _ _ _ _ (by omega) (Co.unk_step he)
theorem dist_stop {l : List Co.Ev} {far R : Co.Far} {n : Nat} (h : Co.distF l (Co.unk l far + 1) n far = R) (he : Co.found l far n = []) : far = R := by
 rw [← h]
 unfold Co.distF
 rw [if_pos he]
def FarA (far : Co.Far) (e : Ending) (w' : World) : Prop := ∃ B m, e = .returned (.map (some B)) ∧ FarM w' B m far
theorem distances_any (ok : Nat → Prop) (l : List Co.Ev) (A : Option Addr) (cap : Nat) (b : Int) (w : World) (h : EvRow ok w A l) (hl : l.length ≤ 10000) (hbw : W64 b) (hW : ∀ e ∈ l, W64 e.id ∧ e.auth.length ≤ 1000000 ∧ ∀ a ∈ e.auth, W64 a) :
  Calls Tryz.prog 75 #[.slice A l.length cap, .int .i64 b] w fun e w' => FarA (Co.dist l b) e w' ∧ Below w.heap.size w w' := by
 have HROW := hid h
 have HW := hid hW
 have HBW := hid hbw
 have HGET := hid (fun (id : Int) (W : World) (hr : EvRow ok W A l) => get_any ok l A cap id W hr (by omega))
 have HM0 := hid (FarM.made w)
 have HB0 := hid ((Below.refl w.heap.size w).alloc (Nat.le_refl _) (.map #[] 0))
 obtain ⟨R, hR⟩ : ∃ R, R = Co.dist l b := ⟨_, rfl⟩
 have HR0 : Hid (Co.distF l (Co.unk l (Co.far0 b) + 1) 1 (Co.far0 b) = R) := hid (by rw [hR]; exact Co.distF_more l _ _ _ _ (by omega) (by have := Co.unk_le l (Co.far0 b); omega))
 have HU0 := hid (Co.unk_le l (Co.far0 b))
 rw [← hR]
 have hwsz : w.heap.size < (w.alloc (.map #[] 0)).heap.size := by simp
 clear h hW hbw hR
 generalize hw1 : w.alloc (.map #[] 0) = w1 at *
 go_enter Tryz.func75, Tryz.ntmps75
 go_wp2_with (first | (rw [run_makeMap, Result.andThen_ok, hw1]) | ((with_reducible refine far_put rfl _ _ _ (.inr rfl) ?_ HM0.out (by decide) b ?_ HBW.out 0 ?_ (by decide) ?_); rfl; rfl; rfl; intro w2 hf2 hg2; have HF2 := hid hf2; have HG2 := hid hg2; clear hf2 hg2))
 go_loopw [6, 7] (fun nx gx wr => ∃ (n m : Nat) (far : Co.Far) (g : Bool), 1 ≤ n ∧ nx = .int .i64 (n : Int) ∧ gx = .bool g ∧ FarM wr w.heap.size m far ∧ Hid (m ≤ n * (l.length + 1)) ∧ Hid (g = true → n + Co.unk l far ≤ l.length + 1 ∧ Co.distF l (Co.unk l far + 1) n far = R) ∧ Hid (g = false → far = R) ∧ n ≤ l.length + 2 ∧ Below w.heap.size w wr) (fun nx gx _ => match gx with | .bool true => l.length + 3 - (RowKit.intOf nx).toNat | _ => 0)
 case atStart => exact ⟨1, 1, Co.far0 b, true, Nat.le_refl _, rfl, rfl, HF2.out, hid (by omega), hid (fun _ => ⟨by have := HU0.out; omega, HR0.out⟩), hid (fun h => by cases h), by omega, HB0.out.grown HG2.out (by omega) (fun k hk => by injection hk with hk; omega)⟩
 case round =>
  obtain ⟨n, m, far, g, hn1, rfl, rfl, hfm, HMB, HG, HN, hn2, hb⟩ := hrel
  have HFM := hid hfm
  have HB := hid hb
  clear hfm hb
  obtain ⟨w5, hw5⟩ : ∃ x, x = wr := ⟨_, rfl⟩
  subst hw5
  cases g with
  | false =>
   have HRR := hid (HN.out rfl)
   go_wp2_with fail
   go_ret
   exact ⟨⟨w.heap.size, m, rfl, by rw [← HRR.out]; exact HFM.out⟩, HB.out⟩
  | true =>
   have HD := hid (HG.out rfl).2
   have HNU := hid (HG.out rfl).1
   clear HG HN
   have hwB : w.heap.size < w5.heap.size := HFM.out.lt
   go_wp2_with fail
   go_loopw [8, 28] (fun sx ix wr => ∃ (k : Nat) (L : List Int), k ≤ l.length ∧ ix = .int .i64 (k : Int) ∧ Hid (L = (Co.idsOf (l.take k)).filter (fdP l far n)) ∧ IntO wr w.heap.size w.heap.size sx L ∧ FarM wr w.heap.size m far ∧ Below w.heap.size w wr) (fun _ ix _ => l.length - (RowKit.intOf ix).toNat)
   case atStart => exact ⟨0, [], Nat.zero_le _, rfl, hid rfl, IntO.nil .., HFM.out, HB.out⟩
   case round =>
    obtain ⟨k, L, hk, rfl, HL, hso, hfm, hb⟩ := hrel
    have HSO := hid hso
    have HFM := hid hfm
    have HB := hid hb
    clear hso hfm hb
    obtain ⟨w6, hw6⟩ : ∃ x, x = wr := ⟨_, rfl⟩
    subst hw6
    have hwB : w.heap.size < w6.heap.size := HFM.out.lt
    by_cases hlt : k < l.length
    ·obtain ⟨v0, hv0⟩ : ∃ x, x = u8 := ⟨_, rfl⟩
     subst hv0
     obtain ⟨x, b0, off, X0, hx, rfl, hok, hbl, hr, hv⟩ := HROW.out.at_ hlt
     have hcid : w6.cell? ⟨b0, off + k * 29, none⟩ = some (.int .i64 x.id) := by
      have := (range_keep hr (HB.out.block b0 hbl)) 0 _ (EvV.c0 hv)
      rw [Nat.add_zero] at this
      exact this
     obtain ⟨y, hy1, hy2, hy3, hy4⟩ := get_own hx
     have hG := HGET.out x.id w6 (HROW.out.bel HB.out)
     rw [hy1] at hG
     have HGC := hid hG
     have hyW := HW.out y hy2
     have HW1 : Hid (W64 x.id) := hid (by rw [← hy3]; exact hyW.1)
     have HWA := hid hyW.2.2
     have hal : y.auth.length ≤ 1000000 := hyW.2.1
     have HST : Hid ((Co.idsOf (l.take (k + 1))).filter (fdP l far n) = L ++ (if fdP l far n x.id then [x.id] else [])) := hid (by rw [fd_step hx, ← HL.out])
     have HLL : Hid (L.length ≤ l.length) := hid (by rw [HL.out]; exact fd_len l far n k)
     have HFP : Hid (fdP l far n x.id = ((far x.id).isNone && y.auth.any fun a => far a == some (n - 1))) := hid (by unfold fdP; rw [hy4])
     have HYI : Hid (y.id = x.id) := hid hy3
     have hcnt : k + 1 ≤ l.length := hlt
     clear hx hr hv hy1 hy2 hy3 hy4 hyW hG HL hok hbl
     go_upto_block 3 with (fail)
     go_cut [8] from 30 to 74 (fun sx wx => IntO wx w.heap.size w.heap.size sx ((Co.idsOf (l.take (k + 1))).filter (fdP l far n)) ∧ FarM wx w.heap.size m far ∧ Below w.heap.size w wx)
     case first =>
      go_wp2_with fail
      refine HGC.out.mono ?_
      rintro e w7 ⟨⟨V, rfl, hv⟩, hb7⟩
      have hvl := hv.len
      rw [Array.length_toList] at hvl
      have HSX : Hid ((Tryz.prog.info? 34).map (·.size) = some V.size) := hid (by rw [size_ev, hvl])
      have HSZ : Hid (zEv.size = V.size) := hid hvl.symm
      have HOV : Hid (V.all (·.oneCell') = true) := hid (by have := EvS.all hv; rwa [Array.toArray_toList] at this)
      have HC0 : Hid (V[0]? = some (.int .i64 x.id)) := hid (by have := hv.c0; rw [Array.getElem?_toList] at this; rw [this, ← HYI.out]; rfl)
      obtain ⟨_, ca, _, _, _, _, hX, hL⟩ := hv
      obtain ⟨Aa, capa, rfl, hra, -⟩ := hL.auth
      have HC9 : Hid (V[9]? = some (.slice Aa y.auth.length capa)) := hid (by rw [← Array.getElem?_toList, hX]; rfl)
      have hra2 : Rd w7 Aa y.auth.length (intL y.auth) := by have := hra; rw [Nat.mul_one] at this; exact this
      have HNEW := hid (Blk.new w7 34 zEv)
      have hb8 := below_setRow (g := w7.heap.size) ((Below.refl w7.heap.size w7).alloc (Nat.le_refl _) (.cells zEv 34)) (Nat.le_refl _) V
      have HK8 : Hid (Blk ((w7.alloc (.cells zEv 34)).setRow w7.heap.size V) w7.heap.size 34 V) := hid (setRow_heap _ _ _ _ _ _ HNEW.out)
      have HRA := hid (hra2.below hb8)
      have HSO8 := hid ((HSO.out.bel hb7).bel hb8)
      have HFM8 := hid ((HFM.out.bel hb7).bel hb8)
      have HB8 := hid ((HB.out.trans (hb7.mono HB.out.size)).trans (hb8.mono (Nat.le_trans HB.out.size hb7.size)))
      clear hb7 hb8 hvl hX hL hra hra2
      have hc0 : ((w7.alloc (.cells zEv 34)).setRow w7.heap.size V).cell? ⟨w7.heap.size, 0, none⟩ = some (.int .i64 x.id) := (Blk.cell HK8.out 0).trans HC0.out
      have hc9 : ((w7.alloc (.cells zEv 34)).setRow w7.heap.size V).cell? ⟨w7.heap.size, 9, none⟩ = some (.slice Aa y.auth.length capa) := (Blk.cell HK8.out 9).trans HC9.out
      generalize hw8 : (w7.alloc (.cells zEv 34)).setRow w7.heap.size V = w8 at *
      cases hfx : far x.id with
      | some d0 =>
       have HFX := hid hfx
       clear hfx
       have HST2 : Hid ((Co.idsOf (l.take (k + 1))).filter (fdP l far n) = L) := hid (by rw [HST.out, HFP.out, HFX.out]; simp)
       go_wp2_with (first
        | ((with_reducible refine store_rowe rfl 34 _ _ rfl w7.heap.size V ?_ ?_ 34 zEv HNEW.out HSX.out HSZ.out HOV.out ?_); rfl; rfl; rw [hw8])
        | ((with_reducible refine far_lookS rfl _ _ rfl ?_ HFM8.out x.id ?_ HW1.out HFX.out ?_); rfl; rfl))
       go_meet
       exact ⟨by rw [HST2.out]; exact HSO8.out, HFM8.out, HB8.out⟩
      | none =>
       have HFX := hid hfx
       clear hfx
       have HST2 : Hid ((Co.idsOf (l.take (k + 1))).filter (fdP l far n) = L ++ (if y.auth.any (fun a => far a == some (n - 1)) then [x.id] else [])) := hid (by rw [HST.out, HFP.out, HFX.out]; rfl)
       go_wp2_with (first
        | ((with_reducible refine store_rowe rfl 34 _ _ rfl w7.heap.size V ?_ ?_ 34 zEv HNEW.out HSX.out HSZ.out HOV.out ?_); rfl; rfl; rw [hw8])
        | ((with_reducible refine far_lookN rfl _ _ rfl ?_ HFM8.out x.id ?_ HW1.out HFX.out ?_); rfl; rfl))
       go_loopw [8, 52] (fun sx jx wr => ∃ j : Nat, j ≤ y.auth.length ∧ jx = .int .i64 (j : Int) ∧ Hid ((y.auth.take j).any (fun a => far a == some (n - 1)) = false) ∧ w8 = wr ∧ v0 = sx) (fun _ jx _ => y.auth.length - (RowKit.intOf jx).toNat)
       case atStart => exact ⟨0, Nat.zero_le _, rfl, hid rfl, rfl, rfl⟩
       case round =>
        obtain ⟨j, hj, rfl, HNO, hw, hsx⟩ := hrel
        subst hw
        subst hsx
        by_cases hlj : j < y.auth.length
        ·obtain ⟨z, hz⟩ : ∃ z, y.auth[j]? = some z := ⟨_, List.getElem?_eq_getElem hlj⟩
         have HWZ := hid (HWA.out z (List.mem_of_getElem? hz))
         obtain ⟨ga, oa, rfl, hcz⟩ := HRA.out.2 j _ (intL_at hz)
         have HZ := hid hz
         have hcj : j + 1 ≤ y.auth.length := hlj
         clear hz
         cases hfz : far z with
         | none =>
          have HFZ := hid hfz
          have HNX : Hid ((y.auth.take (j + 1)).any (fun a => far a == some (n - 1)) = false) := hid (any_step HZ.out HNO.out (by rw [hfz]; rfl))
          clear hfz
          go_wp2_with ((with_reducible refine far_lookN rfl _ _ rfl ?_ HFM8.out z ?_ HWZ.out HFZ.out ?_); rfl; rfl)
          go_roundw
          case rel => exact ⟨j + 1, hcj, by go_num, HNX, trivial, rfl⟩
          case measure => simp [RowKit.intOf]; omega
         | some d =>
          have HFZ := hid hfz
          by_cases hd : d = n - 1
          ·have HY : Hid (y.auth.any (fun a => far a == some (n - 1)) = true) := hid (List.any_eq_true.2 ⟨z, List.mem_of_getElem? HZ.out, by rw [hfz, hd]; simp⟩)
           have hdn : ((d : Int) == (n : Int) - 1) = true := by rw [beq_iff_eq]; omega
           have HAE : Hid ((Co.idsOf (l.take (k + 1))).filter (fdP l far n) = L ++ [x.id]) := hid (by rw [HST2.out, HY.out]; rfl)
           have HL9 : Hid (L.length ≤ 1000000000) := hid (by have := HLL.out; omega)
           have HW8L := hid HFM8.out.lt
           have HBS : Hid (w.heap.size ≤ w8.heap.size) := hid HB8.out.size
           clear hfz hd
           go_wp2_with (first
            | ((with_reducible refine far_lookS rfl _ _ rfl ?_ HFM8.out z ?_ HWZ.out HFZ.out ?_); rfl; rfl)
            | ((with_reducible refine app_int rfl _ _ rfl w8 x.id ?_ HSO8.out ?_ HBS.out HW8L.out HL9.out ?_); rfl; rfl; intro v9 w9 ho9 hf9 hb9; have HO9 := hid ho9; have HF9 := hid hf9; have HB9 := hid hb9; clear ho9 hf9 hb9))
           go_meet
           exact ⟨by rw [HAE.out]; exact HO9.out, HF9.out _ _ HFM8.out, HB9.out _ HB8.out⟩
          ·have HNX : Hid ((y.auth.take (j + 1)).any (fun a => far a == some (n - 1)) = false) := hid (any_step HZ.out HNO.out (by rw [hfz]; simp; exact hd))
           have hdn : ((d : Int) == (n : Int) - 1) = false := by rw [beq_eq_false_iff_ne]; omega
           clear hfz hd
           go_wp2_with ((with_reducible refine far_lookS rfl _ _ rfl ?_ HFM8.out z ?_ HWZ.out HFZ.out ?_); rfl; rfl)
           go_roundw
           case rel => exact ⟨j + 1, hcj, by go_num, HNX, trivial, rfl⟩
           case measure => simp [RowKit.intOf]; omega
        ·obtain rfl : j = y.auth.length := by omega
         have HAE : Hid ((Co.idsOf (l.take (k + 1))).filter (fdP l far n) = L) := hid (by have := HNO.out; rw [List.take_length] at this; rw [HST2.out, this]; simp)
         go_wp2_with fail
         go_meet
         exact ⟨by rw [HAE.out]; exact HSO8.out, HFM8.out, HB8.out⟩
     case rest =>
      obtain ⟨hso, hfm, hb⟩ := hcut
      have HSO9 := hid hso
      have HFM9 := hid hfm
      have HB9 := hid hb
      clear hso hfm hb
      go_wp2_with fail
      go_roundw
      case rel => exact ⟨k + 1, _, hcnt, by go_num, hid rfl, HSO9.out, HFM9.out, HB9.out⟩
      case measure => simp [RowKit.intOf]; omega
    ·obtain rfl : k = l.length := by omega
     have HLF : Hid (L = Co.found l far n) := hid (by rw [HL.out, List.take_length]; rfl)
     have HLL : Hid (L.length ≤ l.length) := hid (by rw [HL.out]; exact fd_len l far n l.length)
     have HLW : Hid (∀ z ∈ L, W64 z) := hid (by
      intro z hz
      rw [HLF.out, found_is] at hz
      obtain ⟨e, h1, h2⟩ := List.mem_map.1 (List.mem_filter.1 hz).1
      rw [← h2]
      exact (HW.out e h1).1)
     obtain ⟨As, caps, rfl, hcapL, -⟩ := HSO.out.at_
     have hLl : L.length ≤ 10000 := by have := HLL.out; omega
     have HMM : Hid (m ≤ 100040000) := hid (by
      have h1 := HMB.out
      have h2 : n * (l.length + 1) ≤ 10002 * 10001 := Nat.mul_le_mul (by omega) (by omega)
      omega)
     clear HL hlt hcapL
     go_wp2_with fail
     go_loopw [78] (fun ix wr => ∃ k m' : Nat, k ≤ L.length ∧ ix = .int .i64 (k : Int) ∧ Hid (m' ≤ m + k) ∧ FarM wr w.heap.size m' (Co.upd far (L.take k) n) ∧ IntO wr w.heap.size w.heap.size (.slice As L.length caps) L ∧ Below w.heap.size w wr) (fun ix _ => L.length - (RowKit.intOf ix).toNat)
     case atStart => exact ⟨0, m, Nat.zero_le _, rfl, hid (by omega), by rw [List.take_zero, upd_nil]; exact HFM.out, HSO.out, HB.out⟩
     case round =>
      obtain ⟨k, m', hk, rfl, HMK, hfm, hso, hb⟩ := hrel
      have HFMK := hid hfm
      have HSOK := hid hso
      have HBK := hid hb
      clear hfm hso hb
      by_cases hlk : k < L.length
      ·obtain ⟨z, hz⟩ : ∃ z, L[k]? = some z := ⟨_, List.getElem?_eq_getElem hlk⟩
       have HWZ := hid (HLW.out z (List.mem_of_getElem? hz))
       obtain ⟨ga, oa, rfl, hcz⟩ := HSOK.out.get hz
       have HUP := hid (upd_step (far := far) (n := n) hz)
       have HM9 : Hid (m' < 1000000000) := hid (by have := HMK.out; have := HMM.out; omega)
       have HN9 : Hid (n < 1000000000) := hid (by omega)
       have HBS : Hid (w.heap.size ≤ wr.heap.size) := hid HBK.out.size
       have hck : k + 1 ≤ L.length := hlk
       clear hz
       go_wp2_with ((with_reducible refine far_put rfl _ _ _ (.inl rfl) ?_ HFMK.out HM9.out z ?_ HWZ.out n ?_ HN9.out ?_); rfl; rfl; rfl; intro w9 hf9 hg9; have HF9 := hid hf9; have HG9 := hid hg9; clear hf9 hg9)
       go_roundw
       case rel => exact ⟨k + 1, m' + 1, hck, by go_num, hid (by have := HMK.out; omega), by rw [← HUP.out]; exact HF9.out, HSOK.out.grown HG9.out, HBK.out.grown HG9.out HBS.out (fun k hk => by injection hk with hk; omega)⟩
       case measure => simp [RowKit.intOf]; omega
      ·obtain rfl : k = L.length := by omega
       have HFX : Hid (FarM wr w.heap.size m' (Co.upd far L n)) := hid (by have := HFMK.out; rwa [List.take_length] at this)
       by_cases hnil : L = []
       ·have HFE : Hid (Co.found l far n = []) := hid (by rw [← HLF.out]; exact hnil)
        subst hnil
        have HUN : Hid (Co.upd far [] n = R) := hid (by rw [upd_nil]; exact dist_stop HD.out HFE.out)
        go_wp2_with fail
        go_roundw
        case rel => exact ⟨n + 1, m', _, false, by omega, by go_num, rfl, HFX.out, hid (by have := HMK.out; have := HMB.out; simp at *; rw [Nat.succ_mul]; omega), hid (fun h => by cases h), hid (fun _ => HUN.out), by have := HNU.out; omega, HBK.out⟩
        case measure => simp [RowKit.intOf]; have := HNU.out; omega
       ·have hlp : 0 < L.length := Nat.pos_of_ne_zero (fun h => hnil (List.eq_nil_of_length_eq_zero h))
        have HFE : Hid (Co.found l far n ≠ []) := hid (by rw [← HLF.out]; exact hnil)
        have HUD := hid (dist_go HD.out HFE.out)
        have HUK := hid (Co.unk_step HFE.out)
        clear hnil
        go_wp2_with fail
        go_roundw
        case rel => exact ⟨n + 1, m', _, true, by omega, by go_num, rfl, HFX.out, hid (by have := HMK.out; have := HMB.out; have := HLL.out; rw [Nat.succ_mul]; omega), hid (fun _ => by rw [HLF.out]; exact ⟨by have := HNU.out; have := HUK.out; omega, HUD.out⟩), hid (fun h => by cases h), by have := HNU.out; omega, HBK.out⟩
        case measure => simp [RowKit.intOf]; have := HNU.out; omega
end Go.Proofs.YtacjhbbieeliaaaGreatDoor
/- The text Ko. -/
namespace Go.Proofs.YtacjhbbieeliaaaGreatDoor
open Go.RowKit Go.Lib
set_option linter.unusedVariables false
set_option linter.unusedSimpArgs false
theorem IntO.lit (w : World) {base B : Nat} (y : Int) (hbase : base ≤ w.heap.size) (hB : B < w.heap.size) : IntO (w.alloc (.cells #[.int .i64 y] 3)) base B (.slice (some ⟨w.heap.size, 0, none⟩) 1 1) [y] :=
 ⟨⟨rfl, .inr ⟨w.heap.size, 1, #[.int .i64 y], rfl, hbase, Blk.new w 3 #[.int .i64 y], Nat.le_refl _, by decide, rfl, rfl⟩⟩, by simp [Value.ownBlock]; omega⟩
theorem distF_le (l : List Co.Ev) : ∀ (f n : Nat) (far : Co.Far), (∀ x m, far x = some m → m ≤ n) → ∀ x m, Co.distF l f n far x = some m → m ≤ n + f
 | 0, n, far, h, x, m, hx => h x m hx
 | f + 1, n, far, h, x, m, hx => by
  unfold Co.distF at hx
  split at hx
  ·have := h x m hx; omega
  ·have := distF_le l f (n + 1) _ (fun y k hy => by
    unfold Co.upd at hy
    split at hy
    ·injection hy with hy; omega
    ·have := h y k hy; omega) x m hx
   omega
theorem dist_le {l : List Co.Ev} {b x : Int} {m : Nat} (h : Co.dist l b x = some m) : m ≤ l.length + 2 := by
 have := distF_le l (l.length + 1) 1 (Co.far0 b) (fun y k hy => by
  unfold Co.far0 at hy
  split at hy
  ·injection hy with hy; omega
  ·cases hy) x m h
 omega
theorem auth_is (l : List Co.Ev) (x : Int) : ((Co.getE l x).getD default).auth = Co.authOf l x := by
 unfold Co.authOf
 cases Co.getE l x <;> rfl
def Lst (p : Int → Bool) (L : List Int) (o : Option Int) : Prop := match o with
 | none => ∀ x ∈ L, p x = false
 | some y => y ∈ L ∧ p y = true ∧ ∀ x ∈ L, p x = true → y ≤ x
theorem lst_least {p : Int → Bool} {L : List Int} {o : Option Int} (h : Lst p L o) : Co.least p L = o := by
 cases hl : Co.least p L with
 | none =>
  cases o with
  | none => rfl
  | some y => have := Co.least_none hl y h.1; rw [h.2.1] at this; cases this
 | some z =>
  obtain ⟨h1, h2, h3⟩ := Co.least_some hl
  cases o with
  | none => have := h z h1; rw [h2] at this; cases this
  | some y =>
   have a1 := h3 y h.1 h.2.1
   have a2 := h.2.2 z h1 h2
   congr 1
   omega
theorem lst_no {p : Int → Bool} {L : List Int} {o : Option Int} {k : Nat} {z : Int} (hz : L[k]? = some z) (h : Lst p (L.take k) o) (hp : p z = false) : Lst p (L.take (k + 1)) o := by
 have hm : ∀ x, x ∈ L.take (k + 1) → x ∈ L.take k ∨ x = z := fun x hx => by
  rw [List.take_add_one, hz] at hx
  simpa using hx
 cases o with
 | none =>
  intro x hx
  rcases hm x hx with h1 | rfl
  ·exact h x h1
  ·exact hp
 | some y =>
  refine ⟨by rw [List.take_add_one]; exact List.mem_append_left _ h.1, h.2.1, fun x hx hpx => ?_⟩
  rcases hm x hx with h1 | rfl
  ·exact h.2.2 x h1 hpx
  ·rw [hp] at hpx; cases hpx
theorem lst_ge {p : Int → Bool} {L : List Int} {y : Int} {k : Nat} {z : Int} (hz : L[k]? = some z) (h : Lst p (L.take k) (some y)) (hp : y ≤ z) : Lst p (L.take (k + 1)) (some y) := by
 refine ⟨by rw [List.take_add_one]; exact List.mem_append_left _ h.1, h.2.1, fun x hx hpx => ?_⟩
 rw [List.take_add_one, hz] at hx
 have : x ∈ L.take k ∨ x = z := by simpa using hx
 rcases this with h1 | rfl
 ·exact h.2.2 x h1 hpx
 ·exact hp
theorem lst_new {p : Int → Bool} {L : List Int} {o : Option Int} {k : Nat} {z : Int} (hz : L[k]? = some z) (h : Lst p (L.take k) o) (hp : p z = true) (hlt : ∀ y, o = some y → z ≤ y) : Lst p (L.take (k + 1)) (some z) := by
 refine ⟨by rw [List.take_add_one, hz]; simp, hp, fun x hx hpx => ?_⟩
 rw [List.take_add_one, hz] at hx
 have : x ∈ L.take k ∨ x = z := by simpa using hx
 rcases this with h1 | rfl
 ·cases o with
  | none => have := h x h1; rw [hpx] at this; cases this
  | some y => have a1 := h.2.2 x h1 hpx; have a2 := hlt y rfl; omega
 ·exact Int.le_refl _
theorem auth_all {P : List Int → Prop} {l : List Co.Ev} (h0 : P []) (h : ∀ e ∈ l, P e.auth) (x : Int) : P ((Co.getE l x).getD default).auth := by
 cases hg : Co.getE l x with
 | none => exact h0
 | some e => exact h e (List.mem_of_find?_eq_some hg)
theorem down_step {l : List Co.Ev} {far : Co.Far} {n : Nat} {x : Int} {AU : List Int} {o : Option Int} (ha : AU = Co.authOf l x) (h : Lst (fun a => far a == some n) (AU.take AU.length) o) : Co.downF l far (n + 1) x = o.getD 0 :: Co.downF l far n (o.getD 0) := by
 rw [List.take_length] at h
 have := lst_least h
 rw [ha] at this
 show (Co.least _ _).getD 0 :: _ = _
 rw [this]
def PathA (base : Nat) (L : List Int) (e : Ending) (w' : World) : Prop := ∃ v, e = .returned v ∧ w'.ownsRow base 3 1 v L.length (intL L)
theorem PathA.nil {base : Nat} {L : List Int} {w' : World} (h : L = []) : PathA base L (.returned (.slice none 0 0)) w' := by subst h; exact ⟨_, rfl, World.ownsRow_nil ..⟩
theorem path_any (ok : Nat → Prop) (l : List Co.Ev) (A : Option Addr) (cap : Nat) (a b : Int) (w : World) (h : EvRow ok w A l) (hl : l.length ≤ 10000) (hbw : W64 b) (hW : ∀ e ∈ l, W64 e.id ∧ e.auth.length ≤ 1000000 ∧ ∀ a ∈ e.auth, W64 a) :
  Calls Tryz.prog 32 #[.slice A l.length cap, .int .i64 a, .int .i64 b] w fun e w' => PathA w.heap.size (Co.pathP l a b) e w' ∧ Below w.heap.size w w' := by
 have HROW := hid h
 have HW := hid hW
 have HGET := hid (fun (id : Int) (W : World) (hr : EvRow ok W A l) => get_any ok l A cap id W hr (by omega))
 have HDIST := hid (fun (W : World) (hr : EvRow ok W A l) => distances_any ok l A cap b W hr hl hbw hW)
 have HB0 := hid (Below.refl w.heap.size w)
 obtain ⟨R, hR⟩ : ∃ R, R = Co.pathP l a b := ⟨_, rfl⟩
 have HR := hid hR
 rw [← hR]
 clear h hW hbw hR
 go_enter Tryz.func32, Tryz.ntmps32
 go_wp2_with fail
 refine (HGET.out a w HROW.out).mono ?_
 rintro e w2 ⟨⟨V, rfl, hv⟩, hb2⟩
 have hvl := hv.len
 rw [Array.length_toList] at hvl
 have HSX : Hid ((Tryz.prog.info? 34).map (·.size) = some V.size) := hid (by rw [size_ev, hvl])
 have HSZ : Hid (zEv.size = V.size) := hid hvl.symm
 have HOV : Hid (V.all (·.oneCell') = true) := hid (by have := EvS.all hv; rwa [Array.toArray_toList] at this)
 have HNEW := hid (Blk.new w2 34 zEv)
 have hb3 := below_setRow (g := w2.heap.size) ((Below.refl w2.heap.size w2).alloc (Nat.le_refl _) (.cells zEv 34)) (Nat.le_refl _) V
 have HK3 : Hid (Blk ((w2.alloc (.cells zEv 34)).setRow w2.heap.size V) w2.heap.size 34 V) := hid (setRow_heap _ _ _ _ _ _ HNEW.out)
 have hb23 := hb2.trans (hb3.mono hb2.size)
 have HB23 := hid hb23
 have HB3 := hid (HB0.out.trans (hb23.mono HB0.out.size))
 have HN32 := hid HK3.out.lt
 clear hv
 clear hb2 hb3 hb23 hvl
 generalize hw3 : (w2.alloc (.cells zEv 34)).setRow w2.heap.size V = w3 at *
 cases hga : Co.getE l a with
 | none =>
  have HNIL : Hid (R = []) := hid (by rw [HR.out]; unfold Co.pathP; rw [hga]; rfl)
  rw [show (none : Option Co.Ev).isSome = false from rfl]
  clear hga
  go_wp2_with ((with_reducible refine store_rowe rfl 34 _ _ rfl w2.heap.size V ?_ ?_ 34 zEv HNEW.out HSX.out HSZ.out HOV.out ?_); rfl; rfl; rw [hw3])
  go_ret
  exact ⟨PathA.nil HNIL.out, HB3.out⟩
 | some ya =>
  have HGA := hid hga
  have HWa : Hid (W64 a) := hid (by
   have h1 := List.find?_some hga
   have h2 := (HW.out ya (List.mem_of_find?_eq_some hga)).1
   have h3 : ya.id = a := by simpa using h1
   rw [← h3]; exact h2)
  rw [show (some ya).isSome = true from rfl]
  clear hga
  go_upto_region 4 with ((with_reducible refine store_rowe rfl 34 _ _ rfl w2.heap.size V ?_ ?_ 34 zEv HNEW.out HSX.out HSZ.out HOV.out ?_); rfl; rfl; rw [hw3])
  clear HNEW HSX HSZ HOV
  go_wp2_with fail
  refine (HGET.out b w3 (HROW.out.bel HB3.out)).mono ?_
  rintro e w4 ⟨⟨V, rfl, hv⟩, hb4⟩
  have hvl := hv.len
  rw [Array.length_toList] at hvl
  have HSX : Hid ((Tryz.prog.info? 34).map (·.size) = some V.size) := hid (by rw [size_ev, hvl])
  have HSZ : Hid (zEv.size = V.size) := hid hvl.symm
  have HOV : Hid (V.all (·.oneCell') = true) := hid (by have := EvS.all hv; rwa [Array.toArray_toList] at this)
  have HNEW := hid (Blk.new w4 34 zEv)
  have hb5 := below_setRow (g := w4.heap.size) ((Below.refl w4.heap.size w4).alloc (Nat.le_refl _) (.cells zEv 34)) (Nat.le_refl _) V
  have HK5 : Hid (Blk ((w4.alloc (.cells zEv 34)).setRow w4.heap.size V) w4.heap.size 34 V) := hid (setRow_heap _ _ _ _ _ _ HNEW.out)
  have hb45 := hb4.trans (hb5.mono hb4.size)
  have HB45 := hid hb45
  have HB5 := hid (HB3.out.trans (hb45.mono HB3.out.size))
  have HN54 := hid HK5.out.lt
  clear hv
  clear hb4 hb5 hb45 hvl
  generalize hw5 : (w4.alloc (.cells zEv 34)).setRow w4.heap.size V = w5 at *
  cases hgb : Co.getE l b with
  | none =>
   have HNIL : Hid (R = []) := hid (by rw [HR.out]; unfold Co.pathP; rw [hgb]; simp)
   rw [show (none : Option Co.Ev).isSome = false from rfl]
   clear hgb
   go_wp2_with ((with_reducible refine store_rowe rfl 34 _ _ rfl w4.heap.size V ?_ ?_ 34 zEv HNEW.out HSX.out HSZ.out HOV.out ?_); rfl; rfl; rw [hw5])
   go_ret
   exact ⟨PathA.nil HNIL.out, HB5.out⟩
  | some yb =>
   have HPA : Hid (R = match Co.dist l b a with | none => [] | some n => a :: Co.downF l (Co.dist l b) n a) := hid (by rw [HR.out]; unfold Co.pathP; rw [HGA.out, hgb]; rfl)
   rw [show (some yb).isSome = true from rfl]
   clear hgb
   go_upto_region 7 with ((with_reducible refine store_rowe rfl 34 _ _ rfl w4.heap.size V ?_ ?_ 34 zEv HNEW.out HSX.out HSZ.out HOV.out ?_); rfl; rfl; rw [hw5])
   clear HNEW HSX HSZ HOV
   go_wp2_with fail
   refine (HDIST.out w5 (HROW.out.bel HB5.out)).mono ?_
   rintro e w6 ⟨⟨B, m, rfl, hfm⟩, hb6⟩
   have HFM := hid hfm
   have HB6 := hid (HB5.out.trans (hb6.mono HB5.out.size))
   have HBL := hid hfm.lt
   clear hfm hb6
   generalize hfar : Co.dist l b = far at *
   cases hfa : far a with
   | none =>
    have HNIL : Hid (R = []) := hid (by rw [HPA.out, hfa])
    have HFA := hid hfa
    clear hfa
    go_wp2_with ((with_reducible refine far_lookN rfl _ _ rfl ?_ HFM.out a ?_ HWa.out HFA.out ?_); rfl; rfl)
    go_ret
    exact ⟨PathA.nil HNIL.out, HB6.out⟩
   | some n0 =>
    have HFA := hid hfa
    have HPA2 : Hid (R = a :: Co.downF l far n0 a) := hid (by rw [HPA.out, hfa])
    have hn0 : n0 ≤ 10002 := by rw [← hfar] at hfa; have := dist_le hfa; omega
    have HB7 := hid (HB6.out.alloc HB6.out.size (.cells #[.int .i64 a] 3))
    have HO7 := hid (IntO.lit w6 (base := w.heap.size) (B := B) a HB6.out.size HBL.out)
    have HFM7 := hid (HFM.out.bel ((Below.refl w6.heap.size w6).alloc (Nat.le_refl _) (.cells #[.int .i64 a] 3)))
    clear hfa hfar HPA
    go_wp2_with ((with_reducible refine far_lookS rfl _ _ rfl ?_ HFM.out a ?_ HWa.out HFA.out ?_); rfl; rfl)
    generalize hw7 : w6.alloc (.cells #[.int .i64 a] 3) = w7 at *
    go_loopw [12, 14, 15] (fun nx ox ax wr => ∃ (n : Nat) (at_ : Int) (O : List Int), nx = .int .i64 (n : Int) ∧ ax = .int .i64 at_ ∧ n ≤ 10002 ∧ O.length + n ≤ 10003 ∧ Hid (R = O ++ Co.downF l far n at_) ∧ IntO wr w.heap.size B ox O ∧ FarM wr B m far ∧ Below w.heap.size w wr) (fun nx _ _ _ => (RowKit.intOf nx).toNat)
    case atStart => exact ⟨n0, a, [a], rfl, rfl, hn0, by simp; omega, hid HPA2.out, HO7.out, HFM7.out, HB7.out⟩
    case round =>
     obtain ⟨n, at_, O, rfl, rfl, hn, hol, HRO, hso, hfm, hb⟩ := hrel
     have HSO := hid hso
     have HFM := hid hfm
     have HB8 := hid hb
     clear hso hfm hb
     obtain ⟨w8, hw8⟩ : ∃ x, x = wr := ⟨_, rfl⟩
     subst hw8
     obtain ⟨v0, hv0⟩ : ∃ x, x = u14 := ⟨_, rfl⟩
     subst hv0
     cases n with
     | zero =>
      have HRE : Hid (R = O) := hid (by rw [HRO.out]; exact List.append_nil _)
      go_wp2_with fail
      go_ret
      exact ⟨⟨v0, rfl, by rw [HRE.out]; exact HSO.out.1⟩, HB8.out⟩
     | succ n =>
      have hnn : 0 < n + 1 := by omega
      go_wp2_with fail
      refine (HGET.out at_ w8 (HROW.out.bel HB8.out)).mono ?_
      rintro e w9 ⟨⟨V, rfl, hv⟩, hb9⟩
      have hvl := hv.len
      rw [Array.length_toList] at hvl
      have HSX : Hid ((Tryz.prog.info? 34).map (·.size) = some V.size) := hid (by rw [size_ev, hvl])
      have HSZ : Hid (zEv.size = V.size) := hid hvl.symm
      have HOV : Hid (V.all (·.oneCell') = true) := hid (by have := EvS.all hv; rwa [Array.toArray_toList] at this)
      obtain ⟨_, ca, _, _, _, _, hX, hL⟩ := hv
      obtain ⟨Aa, capa, rfl, hra, -⟩ := hL.auth
      have HC9 : Hid (V[9]? = some (.slice Aa ((Co.getE l at_).getD default).auth.length capa)) := hid (by rw [← Array.getElem?_toList, hX]; rfl)
      have hra2 : Rd w9 Aa ((Co.getE l at_).getD default).auth.length (intL ((Co.getE l at_).getD default).auth) := by have := hra; rw [Nat.mul_one] at this; exact this
      have HNEW := hid (Blk.new w9 34 zEv)
      have hb10 := below_setRow (g := w9.heap.size) ((Below.refl w9.heap.size w9).alloc (Nat.le_refl _) (.cells zEv 34)) (Nat.le_refl _) V
      have HK10 : Hid (Blk ((w9.alloc (.cells zEv 34)).setRow w9.heap.size V) w9.heap.size 34 V) := hid (setRow_heap _ _ _ _ _ _ HNEW.out)
      have hb910 := hb9.trans (hb10.mono hb9.size)
      have HB910 := hid hb910
      have HB10 := hid (HB8.out.trans (hb910.mono HB8.out.size))
      have HN109 := hid HK10.out.lt
      have HRA := hid (hra2.below hb10)
      clear hX hL hra hra2
      have hc9 : ((w9.alloc (.cells zEv 34)).setRow w9.heap.size V).cell? ⟨w9.heap.size, 9, none⟩ = some (.slice Aa ((Co.getE l at_).getD default).auth.length capa) := (Blk.cell HK10.out 9).trans HC9.out
      clear HC9
      clear hb9 hb10 hb910 hvl
      generalize hw10 : (w9.alloc (.cells zEv 34)).setRow w9.heap.size V = w10 at *
      have HAU := hid (auth_is l at_)
      have hall : ((Co.getE l at_).getD default).auth.length ≤ 1000000 := auth_all (P := fun L => L.length ≤ 1000000) (by decide) (fun e he => (HW.out e he).2.1) at_
      have HAW := hid (auth_all (P := fun L => ∀ z ∈ L, W64 z) (fun z hz => by cases hz) (fun e he => (HW.out e he).2.2) at_)
      generalize ((Co.getE l at_).getD default).auth = AU at *
      generalize (Co.getE l at_).isSome = sb at *
      have HSO10 := hid (HSO.out.bel HB910.out)
      have HFM10 := hid (HFM.out.bel HB910.out)
      go_wp2_with ((with_reducible refine store_rowe rfl 34 _ _ rfl w9.heap.size V ?_ ?_ 34 zEv HNEW.out HSX.out HSZ.out HOV.out ?_); rfl; rfl; rw [hw10])
      go_loopw [18, 19, 67] (fun qx sx jx wr => ∃ (j : Nat) (o : Option Int), j ≤ AU.length ∧ qx = .int .i64 (o.getD 0) ∧ sx = .bool o.isSome ∧ jx = .int .i64 (j : Int) ∧ Hid (Lst (fun a => far a == some n) (AU.take j) o) ∧ w10 = wr) (fun _ _ jx _ => AU.length - (RowKit.intOf jx).toNat)
      case atStart => exact ⟨0, none, Nat.zero_le _, rfl, rfl, rfl, hid (fun x hx => by cases hx), rfl⟩
      case round =>
       obtain ⟨j, o, hj, rfl, rfl, rfl, HLS, hw⟩ := hrel
       subst hw
       by_cases hlj : j < AU.length
       ·obtain ⟨z, hz⟩ : ∃ z, AU[j]? = some z := ⟨_, List.getElem?_eq_getElem hlj⟩
        have HWZ := hid (HAW.out z (List.mem_of_getElem? hz))
        obtain ⟨ga, oa, rfl, hcz⟩ := HRA.out.2 j _ (intL_at hz)
        have HZ := hid hz
        have hcj : j + 1 ≤ AU.length := hlj
        clear hz
        cases hfz : far z with
        | none =>
         have HFZ := hid hfz
         have HNX := hid (lst_no HZ.out HLS.out (by rw [hfz]; rfl))
         clear hfz
         go_wp2_with ((with_reducible refine far_lookN rfl _ _ rfl ?_ HFM10.out z ?_ HWZ.out HFZ.out ?_); rfl; rfl)
         go_roundw
         case rel => exact ⟨j + 1, o, hcj, rfl, rfl, by go_num, HNX, trivial⟩
         case measure => simp [RowKit.intOf]; omega
        | some d =>
         have HFZ := hid hfz
         by_cases hd : d = n
         ·have HP : Hid ((far z == some n) = true) := hid (by rw [hfz, hd]; simp)
          have hdn : ((d : Int) == (n : Int)) = true := by rw [beq_iff_eq]; omega
          clear hfz hd
          cases o with
          | none =>
           have HNX := hid (lst_new HZ.out HLS.out HP.out (fun y hy => by cases hy))
           go_wp2_with ((with_reducible refine far_lookS rfl _ _ rfl ?_ HFM10.out z ?_ HWZ.out HFZ.out ?_); rfl; rfl)
           go_roundw
           case rel => exact ⟨j + 1, some z, hcj, rfl, rfl, by go_num, HNX, trivial⟩
           case measure => simp [RowKit.intOf]; omega
          | some y =>
           by_cases hzy : z < y
           ·have HNX := hid (lst_new HZ.out HLS.out HP.out (fun y' hy => by injection hy with hy; omega))
            go_wp2_with ((with_reducible refine far_lookS rfl _ _ rfl ?_ HFM10.out z ?_ HWZ.out HFZ.out ?_); rfl; rfl)
            go_roundw
            case rel => exact ⟨j + 1, some z, hcj, rfl, rfl, by go_num, HNX, trivial⟩
            case measure => simp [RowKit.intOf]; omega
           ·have HNX := hid (lst_ge HZ.out HLS.out (by omega))
            go_wp2_with ((with_reducible refine far_lookS rfl _ _ rfl ?_ HFM10.out z ?_ HWZ.out HFZ.out ?_); rfl; rfl)
            go_roundw
            case rel => exact ⟨j + 1, some y, hcj, rfl, rfl, by go_num, HNX, trivial⟩
            case measure => simp [RowKit.intOf]; omega
         ·have HNX := hid (lst_no HZ.out HLS.out (by rw [hfz]; simp; exact hd))
          have hdn : ((d : Int) == (n : Int)) = false := by rw [beq_eq_false_iff_ne]; omega
          clear hfz hd
          go_wp2_with ((with_reducible refine far_lookS rfl _ _ rfl ?_ HFM10.out z ?_ HWZ.out HFZ.out ?_); rfl; rfl)
          go_roundw
          case rel => exact ⟨j + 1, o, hcj, rfl, rfl, by go_num, HNX, trivial⟩
          case measure => simp [RowKit.intOf]; omega
       ·obtain rfl : j = AU.length := by omega
        have HRN : Hid (R = O ++ [o.getD 0] ++ Co.downF l far n (o.getD 0)) := hid (by rw [HRO.out, down_step HAU.out HLS.out]; simp)
        have HBS : Hid (w.heap.size ≤ w10.heap.size) := hid HB10.out.size
        have HBL10 := hid HFM10.out.lt
        have HOL : Hid (O.length ≤ 1000000000) := hid (by omega)
        generalize o.getD 0 = q at *
        go_wp2_with ((with_reducible refine app_int rfl _ _ rfl w10 q ?_ HSO10.out ?_ HBS.out HBL10.out HOL.out ?_); rfl; rfl; intro v11 w11 ho11 hf11 hb11; have HO11 := hid ho11; have HF11 := hid hf11; have HB11 := hid hb11; clear ho11 hf11 hb11)
        go_roundw
        case rel => exact ⟨n, q, O ++ [q], rfl, rfl, by omega, by rw [List.length_append, List.length_singleton]; omega, HRN, HO11.out, HF11.out _ _ HFM10.out, HB11.out _ HB10.out⟩
        case measure => simp [RowKit.intOf]
end Go.Proofs.YtacjhbbieeliaaaGreatDoor
