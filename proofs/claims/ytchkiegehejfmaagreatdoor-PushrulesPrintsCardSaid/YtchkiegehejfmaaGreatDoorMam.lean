/- The texts Ux, Yd of this proof, one behind the other. -/
import Derived.Deep.CutRange
import Derived.Test.YtchkiegehejfmaaGreatDoorMak
import Derived.Test.YtchkiegehejfmaaGreatDoorMal
import Derived.Test.YtchkiegehejfmaaGreatDoorMai
set_option linter.unusedSimpArgs false
set_option maxHeartbeats 16000000
set_option maxRecDepth 100000
/- The text Ux. -/
namespace Pr
def covers (x y : Cn) : Bool := y.op == 1 || same y x
def shadG : List Cn → List Rl → List Str
 | _, [] => []
 | fs, x :: r => (if fs.any (covers (simple x.wh)) then [x.name] else []) ++ shadG (fs ++ [simple x.wh]) r
def shadow (l : List Rl) : List Str := shadG [] l
end Pr
namespace Go.Proofs.YtchkiegehejfmaaGreatDoor
open Go.RowKit Go.Lib
set_option linter.unusedVariables false
set_option linter.unusedSimpArgs false
theorem own_other {w w' : World} {base size n : Nat} {e : TypeId} {v : Value} {xs : List Value} {row : Option Nat} (h : w.ownsRow base e size v n xs) (hg : w.grownBy w' row) (hne : v.ownBlock = row → v.ownBlock = none) : w'.ownsRow base e size v n xs := by
 obtain ⟨h1, h2⟩ := h
 refine ⟨h1, ?_⟩
 rcases h2 with h2 | ⟨k, cap, cur, rfl, hk, hh, hn, hcap, hsz, ht⟩
 ·exact .inl h2
 ·refine .inr ⟨k, cap, cur, rfl, hk, (hg.block k (Array.getElem?_eq_some_iff.1 hh).1 (fun e => ?_)).trans hh, hn, hcap, hsz, ht⟩
  have := hne e
  cases this
theorem CnO.other {w w' : World} {base : Nat} {ok ok' : Nat → Prop} {v : Value} {L : List Pr.Cn} {row : Option Nat} (h : CnO w base ok v L) (hg : w.grownBy w' row) (hne : v.ownBlock = row → v.ownBlock = none) (hk : ∀ b, ok b → b < w.heap.size → ok' b ∧ some b ≠ row) : CnO w' base ok' v L := by
 obtain ⟨xs, h1, h2⟩ := h
 exact ⟨xs, own_other h1 hg hne, h2.keep fun b hb hl => ⟨⟨(hk b hb.1 hl).1, hb.2⟩, hg.block b hl (hk b hb.1 hl).2⟩⟩
theorem rowSt : RowU 43 9 1 16 := ⟨Tryz.underlying43, ⟨_, info_str, rfl⟩, by decide, by decide⟩
theorem pshadowed_any (ok : Nat → Prop) (l : List Pr.Rl) (A : Option Addr) (cap : Nat) (w : World) (hn : l.length ≤ 1000) (hl : RlRow w ok A l) (hsm : ∀ x ∈ l, Pr.nodes x.wh ≤ 100000) :
  Calls Tryz.prog 26 #[.slice A l.length cap] w fun e w' => (∃ v, e = .returned v ∧ w'.ownsRow w.heap.size 9 1 v (Pr.shadow l).length (strL (Pr.shadow l))) ∧ Below w.heap.size w w' := by
 have HR := hid hl
 have HSM := hid hsm
 obtain ⟨iC, hiC, hzC, hsC, hbC⟩ := info_parts info_cond
 have HMK := hid (fun W => run_make_own (P := Tryz.prog) W w.heap.size 34 36 iC (.agg zCn) 4 Tryz.underlying34 hiC hzC hsC .i64 .i64 l.length (by rw [hbC]; omega) (by unfold maxLen; omega))
 clear hl hsm hiC hzC hsC hbC
 obtain ⟨wm, hrun, hownm, hgm⟩ := HMK.out w (Nat.le_refl _)
 have HOM := hid hownm
 have HBM : Hid (Below w.heap.size w wm) := hid ((Below.refl w.heap.size w).grown hgm (Nat.le_refl _) (fun g hg => by cases hg))
 clear HMK hownm hgm
 go_enter Tryz.func26, Tryz.ntmps26
 go_wp2_with fail
 go_loopw [3, 4, 13] (fun forms out ix wr => ∃ (k : Nat) (NM : List (List UInt8)), k ≤ l.length ∧ ix = .int .i64 (k : Int) ∧ NM ++ Pr.shadG ((l.take k).map fun x => Pr.simple x.wh) (l.drop k) = Pr.shadow l ∧ NM.length ≤ k ∧ wr.ownsRow w.heap.size 9 1 out NM.length (strL NM) ∧ CnO wr w.heap.size (fun b => w.heap.size ≤ b ∧ some b ≠ out.ownBlock) forms ((l.take k).map fun x => Pr.simple x.wh) ∧ (forms.ownBlock = out.ownBlock → forms.ownBlock = none) ∧ Below w.heap.size w wr) (fun _ _ ix _ => l.length - (RowKit.intOf ix).toNat)
 case atStart => exact ⟨0, [], Nat.zero_le _, rfl, rfl, Nat.le_refl _, own_nil _ _ _, ⟨[], HOM.out, fun i c h => by cases h⟩, (fun e => by cases e), HBM.out⟩
 case round =>
  obtain ⟨k, NM, hk, rfl, hg, hnl, how, hcn, hap, hb⟩ := hrel
  obtain ⟨FS, hFS⟩ : ∃ FS, ((l.take k).map fun x => Pr.simple x.wh) = FS := ⟨_, rfl⟩
  rw [hFS] at hg hcn
  have HFE := hid hFS
  clear hFS
  have HG := hid hg
  have HOW := hid how
  have HCN := hid hcn
  have HAP := hid hap
  have HB := hid hb
  have hws := hb.size
  obtain ⟨A1, c1, rfl, hc1, -, -⟩ := own_at how
  obtain ⟨A0, c0, rfl, hc0⟩ := hcn.len
  have hflt : ∀ q, (Value.slice A0 FS.length c0).ownBlock = some q → q < wr.heap.size := by
   intro q hq
   obtain ⟨xs, h1, _⟩ := HCN.out
   exact (h1.lt q hq).2
  have hblt : ∀ q, (Value.slice A1 NM.length c1).ownBlock = some q → q < wr.heap.size := fun q hq => (HOW.out.lt q hq).2
  clear hg how hcn hap hb
  by_cases hlt : k < l.length
  ·obtain ⟨x, hx⟩ : ∃ x, l[k]? = some x := ⟨_, List.getElem?_eq_getElem hlt⟩
   obtain ⟨b, off, cs, rfl, hok, hr, hcl, A', c', D, dcap, hcse, hrow, hrd, hdc, hdo⟩ := (HR.out.bel HB.out) k x hx
   have HST : Hid (Pr.shadG FS (l.drop k) = (if FS.any (Pr.covers (Pr.simple x.wh)) then [x.name] else []) ++ Pr.shadG (FS ++ [Pr.simple x.wh]) (l.drop (k + 1))) := hid (by
    obtain ⟨h1, h2⟩ := List.getElem?_eq_some_iff.1 hx
    rw [List.drop_eq_getElem_cons h1, h2, Pr.shadG])
   have HFS0 : Hid (((l.take (k + 1)).map fun x => Pr.simple x.wh) = FS ++ [Pr.simple x.wh]) := hid (by rw [take_one hx, List.map_append, HFE.out]; rfl)
   have hnx := HSM.out x (List.mem_of_getElem? hx)
   have hny := Pr.simple_nodes x.wh
   have HNF : Hid (∀ y ∈ FS, Pr.nodes y ≤ 1000000) := hid (fun y hy => by
    rw [← HFE.out] at hy
    obtain ⟨z, hz, rfl⟩ := List.mem_map.1 hy
    have h1 := HSM.out z (List.mem_of_mem_take hz)
    have h2 := Pr.simple_nodes z.wh
    omega)
   have hfl : FS.length ≤ 1000 := by rw [← HFE.out, List.length_map, List.length_take]; omega
   have hcse2 : cs = [.string (bstr x.name), .int .i64 x.wh.op, .string (bstr x.wh.text), .int .i64 x.wh.num, .slice A' x.wh.kids.length c', .slice D x.acts.length dcap] := by have := congrArg Array.toList hcse; simpa using this
   subst hcse2
   have HL2 : Hid ((Tryz.prog.info? 45).map (·.size) = some ([.string (bstr x.name), .int .i64 x.wh.op, .string (bstr x.wh.text), .int .i64 x.wh.num, .slice A' x.wh.kids.length c', .slice D x.acts.length dcap] : List Value).length) := hid (by rw [size_rule]; rfl)
   have HL4 : Hid ((Tryz.prog.info? 36).map (·.size) = some ([.int .i64 x.wh.op, .string (bstr x.wh.text), .int .i64 x.wh.num, .slice A' x.wh.kids.length c'] : List Value).length) := hid (by rw [size_cond]; rfl)
   have hbx := (Below.refl wr.heap.size wr).alloc (Nat.le_refl _) (.cells #[.string (bstr x.name), .int .i64 x.wh.op, .string (bstr x.wh.text), .int .i64 x.wh.num, .slice A' x.wh.kids.length c', .slice D x.acts.length dcap] 45)
   have HKX := hid (Blk.new wr 45 #[.string (bstr x.name), .int .i64 x.wh.op, .string (bstr x.wh.text), .int .i64 x.wh.num, .slice A' x.wh.kids.length c', .slice D x.acts.length dcap])
   have hrg : (wr.alloc (.cells #[.string (bstr x.name), .int .i64 x.wh.op, .string (bstr x.wh.text), .int .i64 x.wh.num, .slice A' x.wh.kids.length c', .slice D x.acts.length dcap] 45)).rangeAt wr.heap.size 1 [.int .i64 x.wh.op, .string (bstr x.wh.text), .int .i64 x.wh.num, .slice A' x.wh.kids.length c'] := by
    intro j v hj
    rw [(Blk.new wr 45 #[.string (bstr x.name), .int .i64 x.wh.op, .string (bstr x.wh.text), .int .i64 x.wh.num, .slice A' x.wh.kids.length c', .slice D x.acts.length dcap]).cell (1 + j)]
    match j, hj with
    | 0, hj => exact hj
    | 1, hj => exact hj
    | 2, hj => exact hj
    | 3, hj => exact hj
    | n + 4, hj => simp at hj
   have HBX := hid hbx
   have HCW := hid (CnV.of (hrow.below hbx) c')
   have hs3 : (wr.alloc (.cells #[.string (bstr x.name), .int .i64 x.wh.op, .string (bstr x.wh.text), .int .i64 x.wh.num, .slice A' x.wh.kids.length c', .slice D x.acts.length dcap] 45)).heap.size = wr.heap.size + 1 := World.size_alloc ..
   have HS3 := hid hs3
   clear hx hcse hrow hrd hbx hs3 hdo
   go_wp2_with (first
    | ((with_reducible refine wpList_load_mid rfl 45 _ rfl b (off + k * 6) ?_ _ _ hr Tryz.underlying45 ?_ HL2.out ?_); rfl; rfl)
    | ((with_reducible refine wpList_load_mid rfl 36 _ rfl wr.heap.size 1 ?_ _ _ hrg Tryz.underlying36 ?_ HL4.out ?_); rfl; rfl))
   refine (psimple_any (Pr.nodes x.wh) hnx ok x.wh _ (wr.alloc (.cells #[.string (bstr x.name), .int .i64 x.wh.op, .string (bstr x.wh.text), .int .i64 x.wh.num, .slice A' x.wh.kids.length c', .slice D x.acts.length dcap] 45)) (Nat.le_refl _) HCW.out).mono ?_
   rintro e w4 ⟨⟨Y, rfl, hY⟩, hb4⟩
   have HB34 : Hid (Below wr.heap.size wr w4) := hid (HBX.out.trans (hb4.mono HBX.out.size))
   have hs34 : wr.heap.size + 1 ≤ w4.heap.size := by have h1 := hb4.size; have h2 := HS3.out; omega
   have HKX4 := hid (HKX.out.below hb4 HKX.out.lt)
   have HY4 : Hid (CnV w4 (fun b => wr.heap.size ≤ b) Y (Pr.simple x.wh)) := hid (hY.keep fun b h _ => ⟨by have h2 := HS3.out; omega, rfl⟩)
   clear hY hb4 hr hrg HCW
   generalize Pr.simple x.wh = y at *
   obtain ⟨B, bc, rfl, hry⟩ := HY4.out.open
   have hby := (Below.refl w4.heap.size w4).alloc (Nat.le_refl _) (.cells #[.int .i64 y.op, .string (bstr y.text), .int .i64 y.num, .slice B y.kids.length bc] 36)
   have HY5 := hid (HY4.out.bel hby)
   have HKY5 := hid (Blk.new w4 36 #[.int .i64 y.op, .string (bstr y.text), .int .i64 y.num, .slice B y.kids.length bc])
   have HSY : Hid ((Tryz.prog.info? 36).map (·.size) = some (#[.int .i64 y.op, .string (bstr y.text), .int .i64 y.num, .slice B y.kids.length bc] : Array Value).size) := hid (by rw [size_cond]; rfl)
   have HB5r := hid (HB34.out.trans (hby.mono HB34.out.size))
   have HKX5 := hid (HKX4.out.alloc (.cells #[.int .i64 y.op, .string (bstr y.text), .int .i64 y.num, .slice B y.kids.length bc] 36))
   have HCN5 := hid (HCN.out.bel HB5r.out)
   have HOW5 := hid (own_bel HOW.out HB5r.out)
   have HB5 := hid (HB.out.trans (HB5r.out.mono hws))
   have hlenF : FS.length + 1 ≤ 100000000000 := by omega
   obtain ⟨A2, c2, e1, hc2, hrowF⟩ := HCN5.out.row (ok' := fun b => w.heap.size ≤ b) (fun b h => h.1) (fun q hq => by obtain ⟨xs, h1, _⟩ := HCN.out; exact (h1.lt q hq).1)
   injection e1 with e1 e2 e3
   subst e1 e3
   have HHS := hid (has_shad _ _ y #[.int .i64 y.op, .string (bstr y.text), .int .i64 y.num, .slice B y.kids.length bc] FS A0 c0 w4.heap.size _ (by omega) hrowF HY5.out HKY5.out (by omega) HNF.out)
   clear hrowF e2 hby hry
   generalize hw5 : w4.alloc (.cells #[.int .i64 y.op, .string (bstr y.text), .int .i64 y.num, .slice B y.kids.length bc] 36) = w5 at *
   go_wp2_with fail
   refine HHS.out.mono ?_
   rintro e w6 ⟨rfl, hb6⟩
   have HB6r := hid (HB5r.out.trans (hb6.mono HB5r.out.size))
   have HB6 := hid (HB5.out.trans (hb6.mono HB5.out.size))
   have HKX6 := hid (HKX5.out.below hb6 HKX5.out.lt)
   have HKY6 := hid (HKY5.out.below hb6 HKY5.out.lt)
   have HY6 := hid (HY5.out.bel hb6)
   have HCN6 := hid (HCN5.out.bel hb6)
   have HOW6 := hid (own_bel HOW5.out hb6)
   clear hb6 hw5
   have HFS := HFS0
   cases hin : FS.any (fun z => z.op == 1 || Pr.same z y) with
   | false =>
    have HGQ : Hid (NM ++ Pr.shadG ((l.take (k + 1)).map fun x => Pr.simple x.wh) (l.drop (k + 1)) = Pr.shadow l) := hid (by rw [HFS.out, ← HG.out, HST.out, show FS.any (Pr.covers y) = false from hin]; rfl)
    have HNL : Hid (NM.length ≤ k + 1) := hid (by omega)
    have HKYQ := HKY6
    have HYQ : Hid (CnV w6 (fun b => wr.heap.size ≤ b ∧ some b ≠ (Value.slice A1 NM.length c1).ownBlock) #[.int .i64 y.op, .string (bstr y.text), .int .i64 y.num, .slice B y.kids.length bc] y) := hid (HY6.out.keep fun b hb _ => ⟨⟨hb, fun e => by have := hblt b e.symm; omega⟩, rfl⟩)
    clear hin
    have hbz := (Below.refl w6.heap.size w6).alloc (Nat.le_refl _) (.cells #[.int .i64 y.op, .string (bstr y.text), .int .i64 y.num, .slice B y.kids.length bc] 36)
    obtain ⟨xs, hownF, hcs⟩ := HCN6.out.bel hbz
    have HCS := hid hcs
    have hszq : w4.heap.size < w6.heap.size := HKYQ.out.lt
    have HCS2 := hid (CnsV.one ((HYQ.out.bel hbz).keep (ok' := fun b => (w.heap.size ≤ b ∧ some b ≠ (Value.slice A1 NM.length c1).ownBlock) ∧ some b ≠ (Value.slice A0 FS.length c0).ownBlock) fun b hb _ => ⟨⟨⟨by omega, fun e => hb.2 e⟩, fun e => by have := hflt b e.symm; omega⟩, rfl⟩))
    have hrd : Rd (w6.alloc (.cells #[.int .i64 y.op, .string (bstr y.text), .int .i64 y.num, .slice B y.kids.length bc] 36)) (some ⟨w6.heap.size, 0, none⟩) (1 * 4) [.int .i64 y.op, .string (bstr y.text), .int .i64 y.num, .slice B y.kids.length bc] := Rd.of_blk (vs := [.int .i64 y.op, .string (bstr y.text), .int .i64 y.num, .slice B y.kids.length bc]) (Blk.new w6 36 #[.int .i64 y.op, .string (bstr y.text), .int .i64 y.num, .slice B y.kids.length bc])
    have hszw : w.heap.size ≤ w6.heap.size := HB6.out.size
    have HBQ := hid (HB6.out.alloc hszw (.cells #[.int .i64 y.op, .string (bstr y.text), .int .i64 y.num, .slice B y.kids.length bc] 36))
    have hs7 : w.heap.size ≤ (w6.alloc (.cells #[.int .i64 y.op, .string (bstr y.text), .int .i64 y.num, .slice B y.kids.length bc] 36)).heap.size := HBQ.out.size
    have hone2 : ∀ u ∈ ([.int .i64 y.op, .string (bstr y.text), .int .i64 y.num, .slice B y.kids.length bc] : List Value), u.oneCell' = true := by intro u hu; simp at hu; rcases hu with rfl | rfl | rfl | rfl <;> rfl
    have HOWQ := hid (own_bel HOW6.out hbz)
    clear hcs hbz
    go_wp2_with (first
     | (refine load_row_u (by rfl) 36 _ rfl w4.heap.size rfl 36 _ (0, 0) _ rfl HKYQ.out Tryz.underlying36 HSY.out ?_)
     | ((refine app_row rowCn rfl _ _ rfl _ (.slice A0 FS.length c0) _ xs _ w.heap.size rfl hownF _ 1 1 rfl hrd hone2 hs7 hlenF ?_); intro v8 w8 ho8 hg8 hb8 hwh8))
    go_roundw
    case rel =>
     have hone9 : (Value.slice A1 NM.length c1).ownBlock = (Value.slice A0 FS.length c0).ownBlock → (Value.slice A1 NM.length c1).ownBlock = none := fun e => e.trans (HAP.out e.symm)
     have hlt9 : ∀ q, (Value.slice A1 NM.length c1).ownBlock = some q → q < (w6.alloc (.cells #[.int .i64 y.op, .string (bstr y.text), .int .i64 y.num, .slice B y.kids.length bc] 36)).heap.size := fun q hq => (HOWQ.out.lt q hq).2
     refine ⟨k + 1, NM, hlt, by go_num, HGQ.out, HNL.out, own_other HOWQ.out hg8 hone9, ?_, ?_, hb8 _ HBQ.out⟩
     ·rw [HFS.out]
      exact CnO.app hownF HCS.out HCS2.out ho8 hg8 hwh8
     ·intro e
      rcases hwh8 with h | h
      ·exact e.trans (hone9 (e.symm.trans h))
      ·have := hlt9 _ (e.symm.trans h)
       omega
    case measure => simp [RowKit.intOf]; omega
   | true =>
    have HGQ : Hid ((NM ++ [x.name]) ++ Pr.shadG ((l.take (k + 1)).map fun x => Pr.simple x.wh) (l.drop (k + 1)) = Pr.shadow l) := hid (by rw [HFS.out, ← HG.out, HST.out, show FS.any (Pr.covers y) = true from hin, if_pos rfl, List.append_assoc])
    have HNL : Hid ((NM ++ [x.name]).length ≤ k + 1) := hid (by rw [List.length_append]; show NM.length + 1 ≤ _; omega)
    have hbn := (Below.refl w6.heap.size w6).alloc (Nat.le_refl _) (.cells #[.string (bstr x.name)] 9)
    have hnm := HKX6.out.cell 0
    simp only [List.getElem?_toArray, List.getElem?_cons_zero] at hnm
    have HOW7 := hid (own_bel HOW6.out hbn)
    have HCN7 := hid (HCN6.out.bel hbn)
    have HY7 := hid (HY6.out.bel hbn)
    have HKY7 := hid (HKY6.out.below hbn HKY6.out.lt)
    have hsz6 : w.heap.size ≤ w6.heap.size := HB6.out.size
    have HB7a := hid (HB6.out.alloc hsz6 (.cells #[.string (bstr x.name)] 9))
    have hs7a : w.heap.size ≤ (w6.alloc (.cells #[.string (bstr x.name)] 9)).heap.size := HB7a.out.size
    have hrdn : Rd (w6.alloc (.cells #[.string (bstr x.name)] 9)) (some ⟨w6.heap.size, 0, none⟩) (1 * 1) [.string (bstr x.name)] := Rd.of_blk (vs := [.string (bstr x.name)]) (Blk.new w6 9 #[.string (bstr x.name)])
    have honen : ∀ u ∈ ([.string (bstr x.name)] : List Value), u.oneCell' = true := by intro u hu; simp at hu; subst hu; rfl
    have hlenN : NM.length + 1 ≤ 100000000000 := by omega
    have hwr7 : wr.heap.size ≤ (w6.alloc (.cells #[.string (bstr x.name)] 9)).heap.size := Nat.le_trans HB6r.out.size hbn.size
    clear hin hbn
    go_upto_region 9 with ((refine app_row rowSt rfl _ _ rfl _ (.slice A1 NM.length c1) _ (strL NM) _ w.heap.size rfl HOW7.out _ 1 1 rfl hrdn honen hs7a hlenN ?_); intro v7 w7 ho7 hg7 hb7 hwh7; (obtain ⟨A7, c7, rfl, hc7, -, -⟩ := own_at ho7); (have HO7 := hid ho7); (have HG7 := hid hg7); (have HB7 := hid (hb7 _ HB7a.out)); (have HWH7 := hid hwh7); clear ho7 hg7 hb7 hwh7)
    have HOQ : Hid (w7.ownsRow w.heap.size 9 1 (.slice A7 (NM.length + 1) c7) (NM ++ [x.name]).length (strL (NM ++ [x.name]))) := hid (by rw [List.length_append, strL_append]; exact HO7.out)
    have HAPQ : Hid ((Value.slice A7 (NM.length + 1) c7).ownBlock = (Value.slice A0 FS.length c0).ownBlock → (Value.slice A7 (NM.length + 1) c7).ownBlock = none) := hid (fun e => by
     rcases HWH7.out with h | h
     ·exact e.trans (HAP.out (e.symm.trans h))
     ·have := hflt _ (e.symm.trans h)
      omega)
    have HCNQ : Hid (CnO w7 w.heap.size (fun b => w.heap.size ≤ b ∧ some b ≠ (Value.slice A7 (NM.length + 1) c7).ownBlock) (.slice A0 FS.length c0) FS) := hid (HCN7.out.other HG7.out HAP.out fun b hb hl => ⟨⟨hb.1, fun e => by
     rcases HWH7.out with h | h
     ·exact hb.2 (e.trans h)
     ·rw [h] at e; injection e with e; omega⟩, hb.2⟩)
    have HYQ : Hid (CnV w7 (fun b => wr.heap.size ≤ b ∧ some b ≠ (Value.slice A7 (NM.length + 1) c7).ownBlock) #[.int .i64 y.op, .string (bstr y.text), .int .i64 y.num, .slice B y.kids.length bc] y) := hid (HY7.out.keep fun b hb hl => by
     have hne : some b ≠ (Value.slice A1 NM.length c1).ownBlock := fun e => by have := hblt b e.symm; omega
     refine ⟨⟨hb, fun e => ?_⟩, HG7.out.block b hl hne⟩
     rcases HWH7.out with h | h
     ·exact hne (e.trans h)
     ·rw [h] at e; injection e with e; omega)
    have HKYQ : Hid (Blk w7 w4.heap.size 36 #[.int .i64 y.op, .string (bstr y.text), .int .i64 y.num, .slice B y.kids.length bc]) := hid (HKY7.out.grown HG7.out (fun e => by have := hblt _ e.symm; omega))
    have hbz := (Below.refl w7.heap.size w7).alloc (Nat.le_refl _) (.cells #[.int .i64 y.op, .string (bstr y.text), .int .i64 y.num, .slice B y.kids.length bc] 36)
    obtain ⟨xs, hownF, hcs⟩ := HCNQ.out.bel hbz
    have HCS := hid hcs
    have hszq : w4.heap.size < w7.heap.size := HKYQ.out.lt
    have HCS2 := hid (CnsV.one ((HYQ.out.bel hbz).keep (ok' := fun b => (w.heap.size ≤ b ∧ some b ≠ (Value.slice A7 (NM.length + 1) c7).ownBlock) ∧ some b ≠ (Value.slice A0 FS.length c0).ownBlock) fun b hb _ => ⟨⟨⟨by omega, fun e => hb.2 e⟩, fun e => by have := hflt b e.symm; omega⟩, rfl⟩))
    have hrd : Rd (w7.alloc (.cells #[.int .i64 y.op, .string (bstr y.text), .int .i64 y.num, .slice B y.kids.length bc] 36)) (some ⟨w7.heap.size, 0, none⟩) (1 * 4) [.int .i64 y.op, .string (bstr y.text), .int .i64 y.num, .slice B y.kids.length bc] := Rd.of_blk (vs := [.int .i64 y.op, .string (bstr y.text), .int .i64 y.num, .slice B y.kids.length bc]) (Blk.new w7 36 #[.int .i64 y.op, .string (bstr y.text), .int .i64 y.num, .slice B y.kids.length bc])
    have hszw : w.heap.size ≤ w7.heap.size := HB7.out.size
    have HBQ := hid (HB7.out.alloc hszw (.cells #[.int .i64 y.op, .string (bstr y.text), .int .i64 y.num, .slice B y.kids.length bc] 36))
    have hs7 : w.heap.size ≤ (w7.alloc (.cells #[.int .i64 y.op, .string (bstr y.text), .int .i64 y.num, .slice B y.kids.length bc] 36)).heap.size := HBQ.out.size
    have hone2 : ∀ u ∈ ([.int .i64 y.op, .string (bstr y.text), .int .i64 y.num, .slice B y.kids.length bc] : List Value), u.oneCell' = true := by intro u hu; simp at hu; rcases hu with rfl | rfl | rfl | rfl <;> rfl
    have HOWQ := hid (own_bel HOQ.out hbz)
    clear hcs hbz
    go_wp2_with (first
     | (refine load_row_u (by rfl) 36 _ rfl w4.heap.size rfl 36 _ (0, 0) _ rfl HKYQ.out Tryz.underlying36 HSY.out ?_)
     | ((refine app_row rowCn rfl _ _ rfl _ (.slice A0 FS.length c0) _ xs _ w.heap.size rfl hownF _ 1 1 rfl hrd hone2 hs7 hlenF ?_); intro v8 w8 ho8 hg8 hb8 hwh8))
    go_roundw
    case rel =>
     have hone9 : (Value.slice A7 (NM.length + 1) c7).ownBlock = (Value.slice A0 FS.length c0).ownBlock → (Value.slice A7 (NM.length + 1) c7).ownBlock = none := HAPQ.out
     have hlt9 : ∀ q, (Value.slice A7 (NM.length + 1) c7).ownBlock = some q → q < (w7.alloc (.cells #[.int .i64 y.op, .string (bstr y.text), .int .i64 y.num, .slice B y.kids.length bc] 36)).heap.size := fun q hq => (HOWQ.out.lt q hq).2
     refine ⟨k + 1, (NM ++ [x.name]), hlt, by go_num, HGQ.out, HNL.out, own_other HOWQ.out hg8 hone9, ?_, ?_, hb8 _ HBQ.out⟩
     ·rw [HFS.out]
      exact CnO.app hownF HCS.out HCS2.out ho8 hg8 hwh8
     ·intro e
      rcases hwh8 with h | h
      ·exact e.trans (hone9 (e.symm.trans h))
      ·have := hlt9 _ (e.symm.trans h)
       omega
    case measure => simp [RowKit.intOf]; omega
  ·obtain rfl : k = l.length := by omega
   have HEND : Hid (NM = Pr.shadow l) := hid (by rw [← HG.out, List.drop_length, Pr.shadG, List.append_nil])
   go_wp2_with fail
   go_ret
   exact ⟨⟨_, rfl, by rw [← HEND.out]; exact HOW.out⟩, HB.out⟩
end Go.Proofs.YtchkiegehejfmaaGreatDoor
/- The text Yd. -/
namespace Go.Proofs.YtchkiegehejfmaaGreatDoor
open Go.RowKit Go.Lib
set_option linter.unusedVariables false
set_option linter.unusedSimpArgs false
def CdR (w : World) (g : Nat) (A : Option Addr) (cap : Nat) (L : List Pr.Tk) (o : Nat) (e : Ending) (w' : World) : Option (Pr.Cn × List Pr.Tk) → Prop
 | none => e = .panicked brk
 | some (c, q) => ∃ V j, j ≤ L.length ∧ q = L.drop j ∧ e = .returned (.agg V) ∧ CnV w' (fun b => w.heap.size ≤ b) V c ∧ PSt w' g A cap L j o
def CdA (w : World) (g : Nat) (A : Option Addr) (cap : Nat) (L : List Pr.Tk) (o : Nat) (x : Option (Pr.Cn × List Pr.Tk)) (e : Ending) (w' : World) : Prop := CdR w g A cap L o e w' x ∧ w.grownBy w' (some g)
def RdOk (F : FuncId) (g : Nat) (A : Option Addr) (cap : Nat) (L : List Pr.Tk) (o : Nat) (rd : List Pr.Tk → Option (Pr.Cn × List Pr.Tk)) (i0 : Nat) : Prop :=
 ∀ i w, i0 ≤ i → i ≤ L.length → PSt w g A cap L i o → Calls Tryz.prog F #[.pointer (some ⟨g, 0, none⟩)] w (CdA w g A cap L o (rd (L.drop i)))
theorem PSt.rowlt {w : World} {g : Nat} {A : Option Addr} {cap : Nat} {L : List Pr.Tk} {i o : Nat} (h : PSt w g A cap L i o) : ∀ a, A = some a → a.block < w.heap.size := fun a ha => by
 obtain ⟨b, off, hA⟩ := h.some_
 obtain ⟨hl, hr⟩ := h.row
 obtain ⟨b2, off2, hA2, hc⟩ := hr 0 _ (List.getElem?_eq_getElem (by rw [hl]; omega))
 rw [ha] at hA2
 injection hA2 with hA2
 subst hA2
 exact block_lt hc
theorem PSt.keepB {w w' : World} {g : Nat} {A : Option Addr} {cap : Nat} {L : List Pr.Tk} {i o B : Nat} (h : PSt w g A cap L i o) (hg : g < B) (hA : ∀ a, A = some a → a.block < B) (hb : ∀ k, k < B → w'.heap[k]? = w.heap[k]?) : PSt w' g A cap L i o :=
 ⟨(hb g hg).trans h.blk, rd_keepG h.row (fun a ha _ => hb _ (hA a ha)), h.far⟩
theorem grown_low {w w4 w5 : World} {g : Nat} (h : w.grownBy w4 (some g)) (hb : Below w.heap.size w4 w5) : w.grownBy w5 (some g) :=
 ⟨hb.os.trans h.os, hb.tape.trans h.tape, hb.output.trans h.output, Nat.le_trans h.size hb.size, fun k hk hne => (hb.block k hk).trans (h.block k hk hne)⟩
theorem cn_up {w w2 w3 : World} {g : Nat} {V : Array Value} {c : Pr.Cn} {n : Nat} (h : CnV w2 (fun b => n ≤ b) V c) (hn : w.heap.size ≤ n) (hg : g < n) (hk : ∀ b, n ≤ b → b < w2.heap.size → w3.heap[b]? = w2.heap[b]?) : CnV w3 (fun b => w.heap.size ≤ b) V c :=
 h.keep fun b hb hl => ⟨Nat.le_trans hn hb, hk b hb hl⟩
theorem pwithin_any (F : FuncId) (hEN : ∀ (args : Array Value) (w : World), (callFunc F args).run Tryz.prog w = .ok (.enter F args) w) (g : Nat) (A : Option Addr) (cap : Nat) (L : List Pr.Tk) (i o : Nat) (rd : List Pr.Tk → Option (Pr.Cn × List Pr.Tk)) (w : World)
  (h : PSt w g A cap L i o) (hi : i ≤ L.length) (ho : o ≤ 100) (hR : o < 100 → RdOk F g A cap L (o + 1) rd i) :
  Calls Tryz.prog 162 #[.pointer (some ⟨g, 0, none⟩), .func (.func F) #[.pointer (some ⟨g, 0, none⟩)] #[]] w (CdA w g A cap L o (if 100 ≤ o then none else rd (L.drop i))) := by
 have hlt := h.lt
 have hb2 := h.blk.cell 2
 simp only [List.getElem?_toArray, List.getElem?_cons_succ, List.getElem?_cons_zero] at hb2
 have hf2 := h.blk.frozen 2
 have hss : (w.setCell ⟨g, 2, none⟩ (.int .i64 ((o : Int) + 1))).heap.size = w.heap.size := by simp [World.setCell]
 have h1 : PSt (w.setCell ⟨g, 2, none⟩ (.int .i64 ((o : Int) + 1))) g A cap L i (o + 1) := h.set2 (o + 1)
 have H1 : Hid (PSt ((w.setCell ⟨g, 2, none⟩ (.int .i64 ((o : Int) + 1))).alloc (.cells zCn 36)) g A cap L i (o + 1)) := hid (h1.bel ((Below.refl _ _).alloc (Nat.le_refl _) _))
 have HS1 : Hid (((w.setCell ⟨g, 2, none⟩ (.int .i64 ((o : Int) + 1))).alloc (.cells zCn 36)).heap.size = w.heap.size + 1) := hid (by rw [World.size_alloc, hss])
 have HK1 : Hid (Blk ((w.setCell ⟨g, 2, none⟩ (.int .i64 ((o : Int) + 1))).alloc (.cells zCn 36)) w.heap.size 36 zCn) := hid (by have := Blk.new (w.setCell ⟨g, 2, none⟩ (.int .i64 ((o : Int) + 1))) 36 zCn; rwa [hss] at this)
 have HG1 : Hid (w.grownBy ((w.setCell ⟨g, 2, none⟩ (.int .i64 ((o : Int) + 1))).alloc (.cells zCn 36)) (some g)) := hid (grown_tr (grown_setc w g 2 _) (grown_bel ((Below.refl _ _).alloc (Nat.le_refl _) _)))
 have hne : g ≠ w.heap.size := by omega
 have hne2 : ¬ w.heap.size = g := by omega
 have HR := hid hR
 have HAL := hid h.rowlt
 clear h hR h1 hss
 by_cases ho2 : 100 ≤ o
 ·simp only [if_pos ho2]
  have ho3 : o = 100 := by omega
  subst ho3
  go_enter Tryz.func162, Tryz.ntmps162
  go_wp2_with fail
  exact ⟨rfl, rfl, HG1.out⟩
 ·simp only [if_neg ho2]
  have HRi := hid (HR.out (by omega) i _ (Nat.le_refl _) hi H1.out)
  generalize rd (L.drop i) = X at *
  go_enter Tryz.func162, Tryz.ntmps162
  go_wp2_with fail
  refine HRi.out.mono ?_
  rintro e w2 ⟨hr, hg2⟩
  have HG2 := hid (grown_tr HG1.out hg2)
  have HK2 : Hid (Blk w2 w.heap.size 36 zCn) := hid (HK1.out.grown hg2 (by intro e; injection e with e; exact hne2 e))
  have hs2 : w.heap.size + 1 ≤ w2.heap.size := by have h1 := hg2.size; have h2 := HS1.out; omega
  clear hg2
  cases X with
  | none =>
   obtain rfl : e = .panicked brk := hr
   exact ⟨rfl, rfl, HG2.out⟩
  | some cq =>
   obtain ⟨c, q⟩ := cq
   obtain ⟨V, j, hj, rfl, rfl, hV, hP⟩ := hr
   have HV := hid hV
   have HP2 := hid hP
   have HSX : Hid ((Tryz.prog.info? 36).map (·.size) = some V.size) := hid (by rw [size_cond, hV.size])
   have HSZ : Hid (zCn.size = V.size) := hid (by rw [hV.size]; rfl)
   have HOV := hid hV.one
   have hgN : g < w2.heap.size := by omega
   have HKN := hid (Blk.new w2 36 zCn)
   clear hV hP H1 hb2 hf2 HRi
   go_upto_region 5 with ((with_reducible refine store_row_q rfl 36 _ _ rfl w2.heap.size V ?_ ?_ 36 _ HKN.out HSX.out HSZ.out HOV.out ?_); rfl; rfl; intro w3 hk3 hs3 hbl3 hoth3; have hz3 : Below w2.heap.size w2 w3 := ((Below.refl w2.heap.size w2).alloc (Nat.le_refl _) (.cells zCn 36)).trans (hbl3 _ (Nat.le_refl _)); have HZ3 := hid hz3; have HK3 := hid hk3; clear hk3 hs3 hbl3 hoth3 hz3)
   have HP3 := hid (HP2.out.bel HZ3.out)
   have HV3 := hid (HV.out.bel HZ3.out)
   have HG3 := hid (grown_tr HG2.out (grown_bel HZ3.out))
   have HKR3 : Hid (Blk w3 w.heap.size 36 zCn) := hid (HK2.out.below HZ3.out (by omega))
   have hs3 : w2.heap.size + 1 ≤ w3.heap.size := by have := HK3.out.lt; omega
   have hb2 := HP3.out.blk.cell 2
   simp only [List.getElem?_toArray, List.getElem?_cons_succ, List.getElem?_cons_zero] at hb2
   have hf2 := HP3.out.blk.frozen 2
   have hb2' : w3.cell? ⟨g, 2, none⟩ = some (.int .i64 ((o : Int) + 1)) := hb2
   clear hb2
   have hws : IntKind.i64.wrap ((o : Int) + 1 - 1) = (o : Int) := by rw [show (o : Int) + 1 - 1 = (o : Int) by omega]; exact IntWalk.i64_in _ (by omega)
   have HP4 : Hid (PSt (w3.setCell ⟨g, 2, none⟩ (.int .i64 (o : Int))) g A cap L j o) := hid (HP3.out.set2 o)
   have HK4 : Hid (Blk (w3.setCell ⟨g, 2, none⟩ (.int .i64 (o : Int))) w2.heap.size 36 V) := hid (HK3.out.far (by show w2.heap.size ≠ g; omega) _)
   have HKR4 : Hid (Blk (w3.setCell ⟨g, 2, none⟩ (.int .i64 (o : Int))) w.heap.size 36 zCn) := hid (HKR3.out.far (by show w.heap.size ≠ g; omega) _)
   have HG4 : Hid (w.grownBy (w3.setCell ⟨g, 2, none⟩ (.int .i64 (o : Int))) (some g)) := hid (grown_tr HG3.out (grown_setc _ g 2 _))
   have HV4 : Hid (CnV (w3.setCell ⟨g, 2, none⟩ (.int .i64 (o : Int))) (fun b => w.heap.size + 1 ≤ b) V c) := hid (HV3.out.keep fun b hb hl => ⟨by have := HS1.out; omega, Below.heap_setCell _ _ _ _ (by have := HS1.out; show b ≠ g; omega)⟩)
   generalize hw4 : w3.setCell ⟨g, 2, none⟩ (.int .i64 (o : Int)) = w4 at *
   go_wp2_with (first
    | (refine load_row_u (by rfl) 36 _ rfl w2.heap.size rfl 36 _ (0, 0) _ rfl HK4.out Tryz.underlying36 HSX.out ?_)
    | ((with_reducible refine store_row_q rfl 36 _ _ rfl w.heap.size V ?_ ?_ 36 _ HKR4.out HSX.out HSZ.out HOV.out ?_); rfl; rfl; intro w5 hk5 hs5 hbl5 hoth5))
   have HG5 : Hid (w.grownBy w5 (some g)) := hid (grown_low HG4.out (hbl5 w.heap.size (Nat.le_refl _)))
   have HP5 : Hid (PSt w5 g A cap L j o) := hid (HP4.out.keepB hlt HAL.out (fun k hk => (hbl5 w.heap.size (Nat.le_refl _)).block k hk))
   exact bodyPost_ret (v := .agg V) (results_cell_row rfl _ _ w.heap.size 36 _ (0, 0) _ rfl hk5 Tryz.underlying36 rfl HSX.out) rfl ⟨⟨V, j, hj, rfl, rfl, HV4.out.keep fun b hb hl => ⟨by omega, hoth5 b (by omega)⟩, HP5.out⟩, HG5.out⟩
end Go.Proofs.YtchkiegehejfmaaGreatDoor
