/- The texts Cn5, Cxa, Rg3 of this proof, one behind the other. -/
import Derived.Deep.MidRow
import Derived.Test.YteadlcncnhbmjaaGreatDoorMsbd
import Derived.Test.YteadlcncnhbmjaaGreatDoorMsbb
import Derived.Test.YteadlcncnhbmjaaGreatDoorMsav
import Derived.Test.YteadlcncnhbmjaaGreatDoorMsaw
import Derived.Test.YteadlcncnhbmjaaGreatDoorMsbc
import Derived.Test.YteadlcncnhbmjaaGreatDoorMsay
set_option linter.unusedSimpArgs false
set_option maxHeartbeats 16000000
set_option maxRecDepth 100000
set_option linter.unusedVariables false
namespace Go.Proofs.YteadlcncnhbmjaaGreatDoor
open Go.RowKit Go.Lib
section
variable {P : Program} {ops : Array Oper} {rest : List Oper} {o : Oper} {a : Act} {w : World} {Q : Exit → Act → World → Prop}
theorem An (hgd : o.guard = none) (ty : TypeId) (x y : Operand) (ho : o.op = .store ty x y)
  (g : Nat) (cells : Array Value) (hx : a.eval x = .pointer (some ⟨g, 0, none⟩)) (hy : a.eval y = .agg cells)
  (t : TypeId) (old : Array Value) (hg : Blk w g t old) (hi : (P.info? ty).map (·.size) = some cells.size)
  (hold : old.size = cells.size) (h1 : cells.all (·.oneCell') = true)
  (h : ∀ w', Blk w' g t cells → w'.heap.size = w.heap.size → (∀ B, B ≤ g → Below B w w') → (∀ k, k ≠ g → w'.heap[k]? = w.heap[k]?) → wpList P ops Q rest (a.put o.dst undef) w') : wpList P ops Q (o :: rest) a w :=
 wpList_store_row hgd ty x y ho g cells hx hy t old hg hi hold h1
  (h _ (setRow_heap _ _ _ _ _ _ hg) (setRow_size _ _ _) (fun _ hB => below_setRow (Below.refl _ _) hB _) (fun k hk => setRow_other _ _ _ _ hk))
end
abbrev okF (ok : Nat → Prop) (n : Nat) : Nat → Prop := fun b => (ok b ∧ b < n) ∨ n + 2 ≤ b
abbrev okN (ok : Nat → Prop) (n : Nat) : Nat → Prop := fun b => ok b ∨ n ≤ b
def FdA (ok : Nat → Prop) (n : Nat) (i : Nat) (s : List UInt8) (e : List Ar.FV) (r : Ending) (w' : World) : Prop := (∃ v t cells', Ar.Bq i s = some (v, t) ∧ r = .returned (.tuple #[.agg cells', .string (bstr t), .bool true]) ∧ EvOf (okN ok n) w' cells' (e.set i v)) ∨ (Ar.Bq i s = none ∧ ∃ cells' X, r = .returned (.tuple #[.agg cells', .string X, .bool false]) ∧ cells'.size = 29 ∧ cells'.all (·.oneCell') = true)
theorem EvOf.toF {ok : Nat → Prop} {w W : World} {cells : Array Value} {e : List Ar.FV} (h : EvOf ok w cells e) (hb : Below w.heap.size w W) : EvOf (okF ok w.heap.size) W cells e := h.keep fun b ho hlt => ⟨.inl ⟨ho, hlt⟩, hb.block b hlt⟩
theorem EvOf.toB {ok : Nat → Prop} {n : Nat} {w : World} {cells : Array Value} {e : List Ar.FV} (h : EvOf (okF ok n) w cells e) : EvOf (okN ok n) w cells e := h.keep fun b ho _ => ⟨by rcases ho with ho | ho; exact .inl ho.1; exact .inr (by omega), rfl⟩
theorem EvOf.others {ok : Nat → Prop} {n : Nat} {w W : World} {cells : Array Value} {e : List Ar.FV} (h : EvOf (okF ok n) w cells e) (hk : ∀ k, k ≠ n → k ≠ n + 1 → W.heap[k]? = w.heap[k]?) : EvOf (okF ok n) W cells e := h.keep fun b hb _ => ⟨hb, hk b (by rcases hb with h | h <;> omega) (by rcases hb with h | h <;> omega)⟩
theorem Dk {i : Nat} {s : List UInt8} (hi : Ar.isFlg (Ar.Bs i) = false) : Ar.Bq i s = (Ar.xsign 61 s).bind fun r => Ar.DE (Ar.Bs i) r := by
 unfold Ar.Bq; rw [hi]; rfl
structure FdW (ok : Nat → Prop) (cells : Array Value) (e : List Ar.FV) (w W : World) : Prop where
 k : Blk W w.heap.size 40 cells
 r : Blk W (w.heap.size + 1) 40 zeroEv
 b : Below w.heap.size w W
 e : EvOf (okF ok w.heap.size) W cells e
section
variable {ok : Nat → Prop} {cells : Array Value} {e : List Ar.FV} {w W W' : World} {s T : List UInt8} {i : Nat} {v : Ar.FV} {b : Bool} {B : ByteArray}
theorem FdW.of (h : EvOf ok w cells e) (hb : Below ((w.alloc (.cells cells 40)).alloc (.cells zeroEv 40)).heap.size ((w.alloc (.cells cells 40)).alloc (.cells zeroEv 40)) W) : FdW ok cells e w W :=
 have B : Below w.heap.size w W := (((Below.refl w.heap.size w).alloc (Nat.le_refl _) _).alloc (by rw [World.size_alloc]; exact Nat.le_succ _) _).trans (hb.mono (by rw [World.size_alloc, World.size_alloc]; omega))
 ⟨Blk.below ((Blk.new w 40 cells).alloc _) hb (by rw [World.size_alloc, World.size_alloc]; omega), Blk.below (Cy w _ 40 _) hb (by rw [World.size_alloc, World.size_alloc]; omega), B, h.toF B⟩
theorem FdW.sz (h : FdW ok cells e w W) : (Tryz.prog.info? 40).map (·.size) = some cells.size := by rw [Aj, h.e.size]
theorem FdW.zs (h : FdW ok cells e w W) : zeroEv.size = cells.size := by rw [h.e.size]; rfl
theorem FdW.set (h : FdW ok cells e w W) {c : Value} (hi : i < 29) (hv : v.kind = Ar.Bs i ∧ v.Ok) (hc : CellOf (okF ok w.heap.size) W c v) : FdW ok (cells.setIfInBounds i c) (e.set i v) w (W.setCell ⟨w.heap.size, i, none⟩ c) :=
 ⟨h.k.set_ i c, h.r.grown (Az W w.heap.size i c) (by simp), h.b.setCell (Nat.le_refl _) _, (h.e.setv hi hv hc).others (fun k h1 h2 => Below.heap_setCell W ⟨w.heap.size, i, none⟩ _ k h1)⟩
theorem FdW.below (h : FdW ok cells e w W) (hb : Below W.heap.size W W') : FdW ok cells e w W' :=
 ⟨h.k.below hb h.k.lt, h.r.below hb h.r.lt, h.b.trans (hb.mono (Nat.le_of_lt h.k.lt)), h.e.below hb⟩
theorem FdW.put (h : FdW ok cells e w W) {cs : Array Value} {e' : List Ar.FV} (he : EvOf (okF ok w.heap.size) W cs e') (hk : Blk W' w.heap.size 40 cs) (hb : Below w.heap.size W W') (ho : ∀ k, k ≠ w.heap.size → W'.heap[k]? = W.heap[k]?) : FdW ok cs e' w W' :=
 ⟨hk, (ho _ (by omega)).trans h.r, h.b.trans hb, he.others fun k h1 _ => ho k h1⟩
theorem FdW.cellAt (h : FdW ok cells e w W) (hi : i < 29) : ∃ ci, W.cell? ⟨w.heap.size, i, none⟩ = some ci ∧ W.frozen? ⟨w.heap.size, i, none⟩ = false := by
 obtain ⟨ci, hci, -⟩ := h.e.cell i _ (List.getElem?_eq_getElem (by rw [h.e.len]; exact hi));exact ⟨ci, (h.k.cell i).trans hci, h.k.frozen i⟩
def FdC (i : Nat) (s : List UInt8) (b : Bool) (B : ByteArray) (v : Ar.FV) : Prop := (v.kind = Ar.Bs i ∧ v.Ok) ∧ ((b = true ∧ ∃ t, B = bstr t ∧ Ar.Bq i s = some (v, t)) ∨ (b = false ∧ Ar.Bq i s = none))
theorem FdC.of (hf : Ar.isFlg (Ar.Bs i) = false) (h1 : Ar.xsign 61 s = some T) (hk : v.kind = Ar.Bs i) (h0 : b = false → v.Ok) (h : (b = true ∧ ∃ t, B = bstr t ∧ Ar.DE (Ar.Bs i) T = some (v, t)) ∨ (b = false ∧ Ar.DE (Ar.Bs i) T = none)) : FdC i s b B v := by
 have hx : Ar.Bq i s = Ar.DE (Ar.Bs i) T := by rw [Dk hf, h1]; rfl
 rw [← hx] at h;rcases h with ⟨hb, t, ht, h⟩ | ⟨hb, h⟩
 ·exact ⟨Ar.Hf h, .inl ⟨hb, t, ht, h⟩⟩
 ·exact ⟨⟨hk, h0 hb⟩, .inr ⟨hb, h⟩⟩
theorem FdW.done (h : FdW ok cells (e.set i v) w W) (hc : FdC i s b B v) (hb : ∀ B, B ≤ w.heap.size + 1 → Below B W W') (ho : ∀ k, k ≠ w.heap.size + 1 → W'.heap[k]? = W.heap[k]?) : FdA ok w.heap.size i s e (.returned (.tuple #[.agg cells, .string B, .bool b])) W' ∧ Below w.heap.size w W' := by
 refine ⟨?_, h.b.trans (hb _ (Nat.le_succ _))⟩;rcases hc.2 with ⟨rfl, t, rfl, hx⟩ | ⟨rfl, hx⟩
 ·exact .inl ⟨v, t, cells, hx, rfl, (h.e.others fun k _ h2 => ho k h2).toB⟩
 ·exact .inr ⟨hx, cells, B, rfl, h.e.size, h.e.one⟩
theorem FdW.bad (h : FdW ok cells e w W) (hx : Ar.Bq i s = none) (hb : ∀ B, B ≤ w.heap.size + 1 → Below B W W') : FdA ok w.heap.size i s e (.returned (.tuple #[.agg cells, .string B, .bool false])) W' ∧ Below w.heap.size w W' :=
 ⟨.inr ⟨hx, cells, B, rfl, h.e.size, h.e.one⟩, h.b.trans (hb _ (Nat.le_succ _))⟩
theorem TxA.both {o : Option (List UInt8 × List UInt8)} {r : Ending} (h : TxA o r) : ∃ (x : List UInt8) (B : ByteArray) (b : Bool), r = .returned (.tuple #[.string (bstr x), .string B, .bool b]) ∧ ((b = true ∧ ∃ t, B = bstr t ∧ o = some (x, t)) ∨ (b = false ∧ o = none)) := by
 rcases h with ⟨x, t, h, rfl⟩ | ⟨h, rfl⟩
 ·exact ⟨x, _, true, rfl, .inl ⟨rfl, t, rfl, h⟩⟩
 ·exact ⟨[], _, false, rfl, .inr ⟨rfl, h⟩⟩
theorem NmA.both {o : Option (Int × List UInt8)} {r : Ending} (h : NmA o r) : ∃ (n : Int) (B : ByteArray) (b : Bool), r = .returned (.tuple #[.int .i64 n, .string B, .bool b]) ∧ (b = false → n = 0) ∧ ((b = true ∧ ∃ t, B = bstr t ∧ o = some (n, t)) ∨ (b = false ∧ o = none)) := by
 rcases h with ⟨x, t, h, rfl⟩ | ⟨h, rfl⟩
 ·exact ⟨x, _, true, rfl, (fun h => by cases h), .inl ⟨rfl, t, rfl, h⟩⟩
 ·exact ⟨0, _, false, rfl, fun _ => rfl, .inr ⟨rfl, h⟩⟩
theorem LsA.both {α : Type} {row : List α → List Value} {ty : TypeId} {sz base : Nat} {o : Option (List α × List UInt8)} {r : Ending} (h : LsA row ty sz base o r W) (h0 : row [] = []) : ∃ (l : List α) (A : Option Addr) (c : Nat) (B : ByteArray) (b : Bool), r = .returned (.tuple #[.slice A l.length c, .string B, .bool b]) ∧ SlcOf (fun b => base ≤ b) W (.slice A l.length c) l.length sz (row l) ∧ (b = false → l = []) ∧ ((b = true ∧ ∃ t, B = bstr t ∧ o = some (l, t)) ∨ (b = false ∧ o = none)) := by
 rcases h with ⟨l, t, v, h, rfl, ho⟩ | ⟨h, rfl⟩
 ·obtain ⟨A, c, rfl⟩ := Ax ho;exact ⟨l, A, c, _, true, rfl, SlcOf.of_own ho, (fun h => by cases h), .inl ⟨rfl, t, rfl, h⟩⟩
 ·exact ⟨[], none, 0, _, false, rfl, ⟨none, 0, rfl, ⟨by rw [h0]; simp, fun j v hj => by rw [h0] at hj; cases hj⟩, fun h => absurd h (Nat.lt_irrefl 0)⟩, fun _ => rfl, .inr ⟨rfl, h⟩⟩
theorem Ef {α : Type} {o : Option (α × List UInt8)} {x : α} (f : α → Ar.FV) {y : Option (Ar.FV × List UInt8)} (hy : y = o.map fun p => (f p.1, p.2)) (h : (b = true ∧ ∃ t, B = bstr t ∧ o = some (x, t)) ∨ (b = false ∧ o = none)) : (b = true ∧ ∃ t, B = bstr t ∧ y = some (f x, t)) ∨ (b = false ∧ y = none) := by
 rcases h with ⟨hb, t, ht, h⟩ | ⟨hb, h⟩
 ·exact .inl ⟨hb, t, ht, by rw [hy, h]; rfl⟩
 ·exact .inr ⟨hb, by rw [hy, h]; rfl⟩
end
theorem Je (i : Nat) (j : Int) (hij : (i = 4 ∧ j = 4) ∨ (i = 13 ∧ j = 13)) (ok : Nat → Prop) (cells : Array Value) (e : List Ar.FV) (s : List UInt8) (w : World) (h : EvOf ok w cells e) (hs : s.length ≤ 1000000) : Calls Tryz.prog 57 #[.agg cells, .int .i64 j, .string (bstr s)] w fun r w' => FdA ok w.heap.size i s e r w' ∧ Below w.heap.size w w' := by
 have hi : i < 29 := by omega
 have hk : Ar.Bs i = .flg := by rcases hij with ⟨rfl, rfl⟩ | ⟨rfl, rfl⟩ <;> rfl
 have HC : Hid (FdC i s true (bstr s) (.flg true)) := hid ⟨⟨hk.symm, trivial⟩, .inl ⟨rfl, s, rfl, by unfold Ar.Bq; rw [hk]; rfl⟩⟩;obtain ⟨ci, hci, -⟩ := h.cell i _ (List.getElem?_eq_getElem (by rw [h.len]; exact hi));have HV := hid (h.setv (c := .bool true) hi HC.out.1 rfl);have H1 := hid (FdW.of HV.out (Below.refl _ _));clear h hk hi;rcases hij with ⟨rfl, rfl⟩ | ⟨rfl, rfl⟩
 all_goals
  go_enter Tryz.func57, Tryz.ntmps57
  go_wp2_with (first
   | (refine wpList_load_row rfl 40 _ rfl w.heap.size rfl 40 _ (0, 0) _ H1.out.k Tryz.underlying40 rfl H1.out.sz ?_)
   | ((with_reducible refine An rfl 40 _ _ rfl (w.heap.size + 1) _ ?_ ?_ 40 _ (Cy w _ 40 _) H1.out.sz ?_ H1.out.e.one ?_); rfl; rfl; exact H1.out.zs; intro w4 hk4 hs4 hbl4 hot4))
  refine bodyPost_ret (Ao rfl _ _ (w.heap.size + 1) _ _ _ rfl hk4 Tryz.underlying40 rfl H1.out.sz) rfl ?_;exact H1.out.done HC.out hbl4 hot4
theorem DA (i : Nat) (j : Int) (hij : (i = 1 ∧ j = 1) ∨ (i = 2 ∧ j = 2) ∨ (i = 5 ∧ j = 5) ∨ (i = 10 ∧ j = 10) ∨ (i = 14 ∧ j = 14) ∨ (i = 27 ∧ j = 27)) (ok : Nat → Prop) (cells : Array Value) (e : List Ar.FV) (s : List UInt8) (w : World) (h : EvOf ok w cells e) (hs : s.length ≤ 1000000) : Calls Tryz.prog 57 #[.agg cells, .int .i64 j, .string (bstr s)] w fun r w' => FdA ok w.heap.size i s e r w' ∧ Below w.heap.size w w' := by
 have hi : i < 29 := by omega
 have hk : Ar.Bs i = .txt := by rcases hij with ⟨rfl, rfl⟩ | ⟨rfl, rfl⟩ | ⟨rfl, rfl⟩ | ⟨rfl, rfl⟩ | ⟨rfl, rfl⟩ | ⟨rfl, rfl⟩ <;> rfl
 have HX := hid h;have HSG := hid (fun W => BO s 61 W hs);rw [show (((61 : UInt8).toNat : Nat) : Int) = 61 from rfl] at HSG;have HNX : Hid (Ar.xsign 61 s = none → Ar.Bq i s = none) := hid (fun h1 => by rw [Dk (by rw [hk]; rfl), h1]; rfl);have H0 := hid (FdW.of h (Below.refl _ _));have HST : Hid (∀ W v c, FdW ok cells e w W → (v.kind = Ar.Bs i ∧ v.Ok) → CellOf (okF ok w.heap.size) W c v → FdW ok (cells.setIfInBounds i c) (e.set i v) w (W.setCell ⟨w.heap.size, i, none⟩ c)) := hid (fun W v c h1 h2 h3 => h1.set hi h2 h3);have HCI : Hid (∀ W, FdW ok cells e w W → ∃ ci, W.cell? ⟨w.heap.size, i, none⟩ = some ci ∧ W.frozen? ⟨w.heap.size, i, none⟩ = false) := hid (fun W h1 => h1.cellAt hi);have HFC : Hid (∀ T x B b, Ar.xsign 61 s = some T → ((b = true ∧ ∃ t, B = bstr t ∧ Ar.At T = some (x, t)) ∨ (b = false ∧ Ar.At T = none)) → FdC i s b B (.txt x)) := hid (fun T x B b h1 h2 => FdC.of (by rw [hk]; rfl) h1 hk.symm (fun _ => trivial) (by rw [hk]; exact Ef .txt rfl h2));clear h hk hi;rcases hij with ⟨rfl, rfl⟩ | ⟨rfl, rfl⟩ | ⟨rfl, rfl⟩ | ⟨rfl, rfl⟩ | ⟨rfl, rfl⟩ | ⟨rfl, rfl⟩
 all_goals
  go_enter Tryz.func57, Tryz.ntmps57;go_wp2_with fail;refine (HSG.out _).mono ?_;rintro r w1 ⟨hsg, rfl⟩;rcases hsg with ⟨r1, hr1, rfl⟩ | ⟨hr1, rfl⟩
  ·have HR1 := hid hr1;have hrl := Ar.AU hr1;have HUQ := hid (fun W => DR r1 W (by omega));clear hr1;generalize hRB : bstr r1 = RB at *;go_wp2_with fail;refine (HUQ.out _).mono ?_;rintro r w5 ⟨hone, hb5⟩;have H5 := hid (FdW.of HX.out hb5);obtain ⟨x, B, b, rfl, hcc⟩ := hone.both;have HC := hid (HFC.out r1 x B b HR1.out hcc);have H6 := hid (HST.out w5 _ (.string (bstr x)) H5.out HC.out.1 rfl);clear hcc;obtain ⟨ci, hc5, hf5⟩ := HCI.out w5 H5.out;clear hone hb5
   go_wp2_with (first
    | (refine wpList_load_row rfl 40 _ rfl w.heap.size rfl 40 _ (0, 0) _ H6.out.k Tryz.underlying40 rfl H6.out.sz ?_)
    | ((with_reducible refine An rfl 40 _ _ rfl (w.heap.size + 1) _ ?_ ?_ 40 _ H6.out.r H6.out.sz ?_ H6.out.e.one ?_); rfl; rfl; exact H6.out.zs; intro w7 hk7 hs7 hbl7 hot7))
   refine bodyPost_ret (Ao rfl _ _ (w.heap.size + 1) _ _ _ rfl hk7 Tryz.underlying40 rfl H6.out.sz) rfl ?_;exact H6.out.done HC.out hbl7 hot7
  ·have HNO := hid (HNX.out hr1);clear hr1
   go_wp2_with (first
    | (refine wpList_load_row rfl 40 _ rfl w.heap.size rfl 40 _ (0, 0) _ H0.out.k Tryz.underlying40 rfl H0.out.sz ?_)
    | ((with_reducible refine An rfl 40 _ _ rfl (w.heap.size + 1) _ ?_ ?_ 40 _ (Cy w _ 40 _) H0.out.sz ?_ H0.out.e.one ?_); rfl; rfl; exact H0.out.zs; intro w6 hk6 hs6 hbl6 hot6))
   refine bodyPost_ret (Ao rfl _ _ (w.heap.size + 1) _ _ _ rfl hk6 Tryz.underlying40 rfl H0.out.sz) rfl ?_;exact H0.out.bad HNO.out hbl6
theorem Ig (i : Nat) (j : Int) (hij : (i = 8 ∧ j = 8) ∨ (i = 9 ∧ j = 9)) (ok : Nat → Prop) (cells : Array Value) (e : List Ar.FV) (s : List UInt8) (w : World) (h : EvOf ok w cells e) (hs : s.length ≤ 1000000) : Calls Tryz.prog 57 #[.agg cells, .int .i64 j, .string (bstr s)] w fun r w' => FdA ok w.heap.size i s e r w' ∧ Below w.heap.size w w' := by
 have hi : i < 29 := by omega
 have hk : Ar.Bs i = .nums := by rcases hij with ⟨rfl, rfl⟩ | ⟨rfl, rfl⟩ <;> rfl
 have HX := hid h;have HSG := hid (fun W => BO s 61 W hs);rw [show (((61 : UInt8).toNat : Nat) : Int) = 61 from rfl] at HSG;have HNX : Hid (Ar.xsign 61 s = none → Ar.Bq i s = none) := hid (fun h1 => by rw [Dk (by rw [hk]; rfl), h1]; rfl);have H0 := hid (FdW.of h (Below.refl _ _));have HST : Hid (∀ W v c, FdW ok cells e w W → (v.kind = Ar.Bs i ∧ v.Ok) → CellOf (okF ok w.heap.size) W c v → FdW ok (cells.setIfInBounds i c) (e.set i v) w (W.setCell ⟨w.heap.size, i, none⟩ c)) := hid (fun W v c h1 h2 h3 => h1.set hi h2 h3);have HCI : Hid (∀ W, FdW ok cells e w W → ∃ ci, W.cell? ⟨w.heap.size, i, none⟩ = some ci ∧ W.frozen? ⟨w.heap.size, i, none⟩ = false) := hid (fun W h1 => h1.cellAt hi);have HFC : Hid (∀ T l B b, Ar.xsign 61 s = some T → (b = false → l = []) → ((b = true ∧ ∃ t, B = bstr t ∧ Ar.xlist Ar.xnum T = some (l, t)) ∨ (b = false ∧ Ar.xlist Ar.xnum T = none)) → FdC i s b B (.nums l)) := hid (fun T l B b h1 h0 h2 => FdC.of (by rw [hk]; rfl) h1 hk.symm (fun hb => by rw [h0 hb]; exact (by intro n hn; cases hn)) (by rw [hk]; exact Ef .nums rfl h2));clear h hk hi;rcases hij with ⟨rfl, rfl⟩ | ⟨rfl, rfl⟩
 all_goals
  go_enter Tryz.func57, Tryz.ntmps57;go_wp2_with fail;refine (HSG.out _).mono ?_;rintro r w1 ⟨hsg, rfl⟩;rcases hsg with ⟨r1, hr1, rfl⟩ | ⟨hr1, rfl⟩
  ·have HR1 := hid hr1;have hrl := Ar.AU hr1;have HUQ := hid (fun W => FT r1 W (by omega));clear hr1;generalize hRB : bstr r1 = RB at *;go_wp2_with fail;refine (HUQ.out _).mono ?_;rintro r w5 ⟨hone, hb5⟩;have H5 := hid (FdW.of HX.out hb5);obtain ⟨l, A, cap, B, b, rfl, hsl, h0, hcc⟩ := hone.both rfl;have HC := hid (HFC.out r1 l B b HR1.out h0 hcc);have H6 := hid (HST.out w5 _ (.slice A l.length cap) H5.out HC.out.1 (hsl.keep (by decide) fun b hb _ => ⟨by rw [World.size_alloc, World.size_alloc] at hb; exact .inr hb, rfl⟩));clear hcc hsl h0;obtain ⟨ci, hc5, hf5⟩ := HCI.out w5 H5.out;clear hone hb5
   go_wp2_with (first
    | (refine wpList_load_row rfl 40 _ rfl w.heap.size rfl 40 _ (0, 0) _ H6.out.k Tryz.underlying40 rfl H6.out.sz ?_)
    | ((with_reducible refine An rfl 40 _ _ rfl (w.heap.size + 1) _ ?_ ?_ 40 _ H6.out.r H6.out.sz ?_ H6.out.e.one ?_); rfl; rfl; exact H6.out.zs; intro w7 hk7 hs7 hbl7 hot7))
   refine bodyPost_ret (Ao rfl _ _ (w.heap.size + 1) _ _ _ rfl hk7 Tryz.underlying40 rfl H6.out.sz) rfl ?_;exact H6.out.done HC.out hbl7 hot7
  ·have HNO := hid (HNX.out hr1);clear hr1
   go_wp2_with (first
    | (refine wpList_load_row rfl 40 _ rfl w.heap.size rfl 40 _ (0, 0) _ H0.out.k Tryz.underlying40 rfl H0.out.sz ?_)
    | ((with_reducible refine An rfl 40 _ _ rfl (w.heap.size + 1) _ ?_ ?_ 40 _ (Cy w _ 40 _) H0.out.sz ?_ H0.out.e.one ?_); rfl; rfl; exact H0.out.zs; intro w6 hk6 hs6 hbl6 hot6))
   refine bodyPost_ret (Ao rfl _ _ (w.heap.size + 1) _ _ _ rfl hk6 Tryz.underlying40 rfl H0.out.sz) rfl ?_;exact H0.out.bad HNO.out hbl6
theorem Ih (i : Nat) (j : Int) (hij : (i = 15 ∧ j = 15) ∨ (i = 16 ∧ j = 16)) (ok : Nat → Prop) (cells : Array Value) (e : List Ar.FV) (s : List UInt8) (w : World) (h : EvOf ok w cells e) (hs : s.length ≤ 1000000) : Calls Tryz.prog 57 #[.agg cells, .int .i64 j, .string (bstr s)] w fun r w' => FdA ok w.heap.size i s e r w' ∧ Below w.heap.size w w' := by
 have hi : i < 29 := by omega
 have hk : Ar.Bs i = .txts := by rcases hij with ⟨rfl, rfl⟩ | ⟨rfl, rfl⟩ <;> rfl
 have HX := hid h;have HSG := hid (fun W => BO s 61 W hs);rw [show (((61 : UInt8).toNat : Nat) : Int) = 61 from rfl] at HSG;have HNX : Hid (Ar.xsign 61 s = none → Ar.Bq i s = none) := hid (fun h1 => by rw [Dk (by rw [hk]; rfl), h1]; rfl);have H0 := hid (FdW.of h (Below.refl _ _));have HST : Hid (∀ W v c, FdW ok cells e w W → (v.kind = Ar.Bs i ∧ v.Ok) → CellOf (okF ok w.heap.size) W c v → FdW ok (cells.setIfInBounds i c) (e.set i v) w (W.setCell ⟨w.heap.size, i, none⟩ c)) := hid (fun W v c h1 h2 h3 => h1.set hi h2 h3);have HCI : Hid (∀ W, FdW ok cells e w W → ∃ ci, W.cell? ⟨w.heap.size, i, none⟩ = some ci ∧ W.frozen? ⟨w.heap.size, i, none⟩ = false) := hid (fun W h1 => h1.cellAt hi);have HFC : Hid (∀ T l B b, Ar.xsign 61 s = some T → (b = false → l = []) → ((b = true ∧ ∃ t, B = bstr t ∧ Ar.xlist Ar.At T = some (l, t)) ∨ (b = false ∧ Ar.xlist Ar.At T = none)) → FdC i s b B (.txts l)) := hid (fun T l B b h1 h0 h2 => FdC.of (by rw [hk]; rfl) h1 hk.symm (fun hb => by rw [h0 hb]; exact trivial) (by rw [hk]; exact Ef .txts rfl h2));clear h hk hi;rcases hij with ⟨rfl, rfl⟩ | ⟨rfl, rfl⟩
 all_goals
  go_enter Tryz.func57, Tryz.ntmps57;go_wp2_with fail;refine (HSG.out _).mono ?_;rintro r w1 ⟨hsg, rfl⟩;rcases hsg with ⟨r1, hr1, rfl⟩ | ⟨hr1, rfl⟩
  ·have HR1 := hid hr1;have hrl := Ar.AU hr1;have HUQ := hid (fun W => I1 r1 W (by omega));clear hr1;generalize hRB : bstr r1 = RB at *;go_wp2_with fail;refine (HUQ.out _).mono ?_;rintro r w5 ⟨hone, hb5⟩;have H5 := hid (FdW.of HX.out hb5);obtain ⟨l, A, cap, B, b, rfl, hsl, h0, hcc⟩ := hone.both rfl;have HC := hid (HFC.out r1 l B b HR1.out h0 hcc);have H6 := hid (HST.out w5 _ (.slice A l.length cap) H5.out HC.out.1 (hsl.keep (by decide) fun b hb _ => ⟨by rw [World.size_alloc, World.size_alloc] at hb; exact .inr hb, rfl⟩));clear hcc hsl h0;obtain ⟨ci, hc5, hf5⟩ := HCI.out w5 H5.out;clear hone hb5
   go_wp2_with (first
    | (refine wpList_load_row rfl 40 _ rfl w.heap.size rfl 40 _ (0, 0) _ H6.out.k Tryz.underlying40 rfl H6.out.sz ?_)
    | ((with_reducible refine An rfl 40 _ _ rfl (w.heap.size + 1) _ ?_ ?_ 40 _ H6.out.r H6.out.sz ?_ H6.out.e.one ?_); rfl; rfl; exact H6.out.zs; intro w7 hk7 hs7 hbl7 hot7))
   refine bodyPost_ret (Ao rfl _ _ (w.heap.size + 1) _ _ _ rfl hk7 Tryz.underlying40 rfl H6.out.sz) rfl ?_;exact H6.out.done HC.out hbl7 hot7
  ·have HNO := hid (HNX.out hr1);clear hr1
   go_wp2_with (first
    | (refine wpList_load_row rfl 40 _ rfl w.heap.size rfl 40 _ (0, 0) _ H0.out.k Tryz.underlying40 rfl H0.out.sz ?_)
    | ((with_reducible refine An rfl 40 _ _ rfl (w.heap.size + 1) _ ?_ ?_ 40 _ (Cy w _ 40 _) H0.out.sz ?_ H0.out.e.one ?_); rfl; rfl; exact H0.out.zs; intro w6 hk6 hs6 hbl6 hot6))
   refine bodyPost_ret (Ao rfl _ _ (w.heap.size + 1) _ _ _ rfl hk6 Tryz.underlying40 rfl H0.out.sz) rfl ?_;exact H0.out.bad HNO.out hbl6
theorem LN (i : Nat) (j : Int) (hij : (i = 17 ∧ j = 17)) (ok : Nat → Prop) (cells : Array Value) (e : List Ar.FV) (s : List UInt8) (w : World) (h : EvOf ok w cells e) (hs : s.length ≤ 1000000) : Calls Tryz.prog 57 #[.agg cells, .int .i64 j, .string (bstr s)] w fun r w' => FdA ok w.heap.size i s e r w' ∧ Below w.heap.size w w' := by
 have hi : i < 29 := by omega
 have hk : Ar.Bs i = .usrs := by rcases hij with ⟨rfl, rfl⟩ <;> rfl
 have HX := hid h;have HSG := hid (fun W => BO s 61 W hs);rw [show (((61 : UInt8).toNat : Nat) : Int) = 61 from rfl] at HSG;have HNX : Hid (Ar.xsign 61 s = none → Ar.Bq i s = none) := hid (fun h1 => by rw [Dk (by rw [hk]; rfl), h1]; rfl);have H0 := hid (FdW.of h (Below.refl _ _));have HST : Hid (∀ W v c, FdW ok cells e w W → (v.kind = Ar.Bs i ∧ v.Ok) → CellOf (okF ok w.heap.size) W c v → FdW ok (cells.setIfInBounds i c) (e.set i v) w (W.setCell ⟨w.heap.size, i, none⟩ c)) := hid (fun W v c h1 h2 h3 => h1.set hi h2 h3);have HCI : Hid (∀ W, FdW ok cells e w W → ∃ ci, W.cell? ⟨w.heap.size, i, none⟩ = some ci ∧ W.frozen? ⟨w.heap.size, i, none⟩ = false) := hid (fun W h1 => h1.cellAt hi);have HFC : Hid (∀ T l B b, Ar.xsign 61 s = some T → (b = false → l = []) → ((b = true ∧ ∃ t, B = bstr t ∧ Ar.xlist Ar.xusr T = some (l, t)) ∨ (b = false ∧ Ar.xlist Ar.xusr T = none)) → FdC i s b B (.usrs l)) := hid (fun T l B b h1 h0 h2 => FdC.of (by rw [hk]; rfl) h1 hk.symm (fun hb => by rw [h0 hb]; exact (by intro n hn; cases hn)) (by rw [hk]; exact Ef .usrs rfl h2));clear h hk hi;rcases hij with ⟨rfl, rfl⟩
 all_goals
  go_enter Tryz.func57, Tryz.ntmps57;go_wp2_with fail;refine (HSG.out _).mono ?_;rintro r w1 ⟨hsg, rfl⟩;rcases hsg with ⟨r1, hr1, rfl⟩ | ⟨hr1, rfl⟩
  ·have HR1 := hid hr1;have hrl := Ar.AU hr1;have HUQ := hid (fun W => IC r1 W (by omega));clear hr1;generalize hRB : bstr r1 = RB at *;go_wp2_with fail;refine (HUQ.out _).mono ?_;rintro r w5 ⟨hone, hb5⟩;have H5 := hid (FdW.of HX.out hb5);obtain ⟨l, A, cap, B, b, rfl, hsl, h0, hcc⟩ := hone.both rfl;have HC := hid (HFC.out r1 l B b HR1.out h0 hcc);have H6 := hid (HST.out w5 _ (.slice A l.length cap) H5.out HC.out.1 (hsl.keep (by decide) fun b hb _ => ⟨by rw [World.size_alloc, World.size_alloc] at hb; exact .inr hb, rfl⟩));clear hcc hsl h0;obtain ⟨ci, hc5, hf5⟩ := HCI.out w5 H5.out;clear hone hb5
   go_wp2_with (first
    | (refine wpList_load_row rfl 40 _ rfl w.heap.size rfl 40 _ (0, 0) _ H6.out.k Tryz.underlying40 rfl H6.out.sz ?_)
    | ((with_reducible refine An rfl 40 _ _ rfl (w.heap.size + 1) _ ?_ ?_ 40 _ H6.out.r H6.out.sz ?_ H6.out.e.one ?_); rfl; rfl; exact H6.out.zs; intro w7 hk7 hs7 hbl7 hot7))
   refine bodyPost_ret (Ao rfl _ _ (w.heap.size + 1) _ _ _ rfl hk7 Tryz.underlying40 rfl H6.out.sz) rfl ?_;exact H6.out.done HC.out hbl7 hot7
  ·have HNO := hid (HNX.out hr1);clear hr1
   go_wp2_with (first
    | (refine wpList_load_row rfl 40 _ rfl w.heap.size rfl 40 _ (0, 0) _ H0.out.k Tryz.underlying40 rfl H0.out.sz ?_)
    | ((with_reducible refine An rfl 40 _ _ rfl (w.heap.size + 1) _ ?_ ?_ 40 _ (Cy w _ 40 _) H0.out.sz ?_ H0.out.e.one ?_); rfl; rfl; exact H0.out.zs; intro w6 hk6 hs6 hbl6 hot6))
   refine bodyPost_ret (Ao rfl _ _ (w.heap.size + 1) _ _ _ rfl hk6 Tryz.underlying40 rfl H0.out.sz) rfl ?_;exact H0.out.bad HNO.out hbl6
theorem LY (i : Nat) (j : Int) (hij : (i = 18 ∧ j = 18)) (ok : Nat → Prop) (cells : Array Value) (e : List Ar.FV) (s : List UInt8) (w : World) (h : EvOf ok w cells e) (hs : s.length ≤ 1000000) : Calls Tryz.prog 57 #[.agg cells, .int .i64 j, .string (bstr s)] w fun r w' => FdA ok w.heap.size i s e r w' ∧ Below w.heap.size w w' := by
 have hi : i < 29 := by omega
 have hk : Ar.Bs i = .knds := by rcases hij with ⟨rfl, rfl⟩ <;> rfl
 have HX := hid h;have HSG := hid (fun W => BO s 61 W hs);rw [show (((61 : UInt8).toNat : Nat) : Int) = 61 from rfl] at HSG;have HNX : Hid (Ar.xsign 61 s = none → Ar.Bq i s = none) := hid (fun h1 => by rw [Dk (by rw [hk]; rfl), h1]; rfl);have H0 := hid (FdW.of h (Below.refl _ _));have HST : Hid (∀ W v c, FdW ok cells e w W → (v.kind = Ar.Bs i ∧ v.Ok) → CellOf (okF ok w.heap.size) W c v → FdW ok (cells.setIfInBounds i c) (e.set i v) w (W.setCell ⟨w.heap.size, i, none⟩ c)) := hid (fun W v c h1 h2 h3 => h1.set hi h2 h3);have HCI : Hid (∀ W, FdW ok cells e w W → ∃ ci, W.cell? ⟨w.heap.size, i, none⟩ = some ci ∧ W.frozen? ⟨w.heap.size, i, none⟩ = false) := hid (fun W h1 => h1.cellAt hi);have HFC : Hid (∀ T l B b, Ar.xsign 61 s = some T → (b = false → l = []) → ((b = true ∧ ∃ t, B = bstr t ∧ Ar.xlist Ar.xknd T = some (l, t)) ∨ (b = false ∧ Ar.xlist Ar.xknd T = none)) → FdC i s b B (.knds l)) := hid (fun T l B b h1 h0 h2 => FdC.of (by rw [hk]; rfl) h1 hk.symm (fun hb => by rw [h0 hb]; exact (by intro n hn; cases hn)) (by rw [hk]; exact Ef .knds rfl h2));clear h hk hi;rcases hij with ⟨rfl, rfl⟩
 all_goals
  go_enter Tryz.func57, Tryz.ntmps57;go_wp2_with fail;refine (HSG.out _).mono ?_;rintro r w1 ⟨hsg, rfl⟩;rcases hsg with ⟨r1, hr1, rfl⟩ | ⟨hr1, rfl⟩
  ·have HR1 := hid hr1;have hrl := Ar.AU hr1;have HUQ := hid (fun W => IU r1 W (by omega));clear hr1;generalize hRB : bstr r1 = RB at *;go_wp2_with fail;refine (HUQ.out _).mono ?_;rintro r w5 ⟨hone, hb5⟩;have H5 := hid (FdW.of HX.out hb5);obtain ⟨l, A, cap, B, b, rfl, hsl, h0, hcc⟩ := hone.both rfl;have HC := hid (HFC.out r1 l B b HR1.out h0 hcc);have H6 := hid (HST.out w5 _ (.slice A l.length cap) H5.out HC.out.1 (hsl.keep (by decide) fun b hb _ => ⟨by rw [World.size_alloc, World.size_alloc] at hb; exact .inr hb, rfl⟩));clear hcc hsl h0;obtain ⟨ci, hc5, hf5⟩ := HCI.out w5 H5.out;clear hone hb5
   go_wp2_with (first
    | (refine wpList_load_row rfl 40 _ rfl w.heap.size rfl 40 _ (0, 0) _ H6.out.k Tryz.underlying40 rfl H6.out.sz ?_)
    | ((with_reducible refine An rfl 40 _ _ rfl (w.heap.size + 1) _ ?_ ?_ 40 _ H6.out.r H6.out.sz ?_ H6.out.e.one ?_); rfl; rfl; exact H6.out.zs; intro w7 hk7 hs7 hbl7 hot7))
   refine bodyPost_ret (Ao rfl _ _ (w.heap.size + 1) _ _ _ rfl hk7 Tryz.underlying40 rfl H6.out.sz) rfl ?_;exact H6.out.done HC.out hbl7 hot7
  ·have HNO := hid (HNX.out hr1);clear hr1
   go_wp2_with (first
    | (refine wpList_load_row rfl 40 _ rfl w.heap.size rfl 40 _ (0, 0) _ H0.out.k Tryz.underlying40 rfl H0.out.sz ?_)
    | ((with_reducible refine An rfl 40 _ _ rfl (w.heap.size + 1) _ ?_ ?_ 40 _ (Cy w _ 40 _) H0.out.sz ?_ H0.out.e.one ?_); rfl; rfl; exact H0.out.zs; intro w6 hk6 hs6 hbl6 hot6))
   refine bodyPost_ret (Ao rfl _ _ (w.heap.size + 1) _ _ _ rfl hk6 Tryz.underlying40 rfl H0.out.sz) rfl ?_;exact H0.out.bad HNO.out hbl6
theorem BG (i : Nat) (j : Int) (hij : (i = 0 ∧ j = 0) ∨ (i = 3 ∧ j = 3) ∨ (i = 6 ∧ j = 6) ∨ (i = 7 ∧ j = 7) ∨ (i = 11 ∧ j = 11) ∨ (i = 12 ∧ j = 12) ∨ (i = 19 ∧ j = 19) ∨ (i = 20 ∧ j = 20) ∨ (i = 21 ∧ j = 21) ∨ (i = 22 ∧ j = 22) ∨ (i = 23 ∧ j = 23) ∨ (i = 24 ∧ j = 24) ∨ (i = 25 ∧ j = 25) ∨ (i = 26 ∧ j = 26) ∨ (i = 28 ∧ j = 28)) (ok : Nat → Prop) (cells : Array Value) (e : List Ar.FV) (s : List UInt8) (w : World) (h : EvOf ok w cells e) (hs : s.length ≤ 1000000) : Calls Tryz.prog 57 #[.agg cells, .int .i64 j, .string (bstr s)] w fun r w' => FdA ok w.heap.size i s e r w' ∧ Below w.heap.size w w' := by
 have hi : i < 29 := by omega
 have hk : Ar.Bs i = .num := by rcases hij with ⟨rfl, rfl⟩ | ⟨rfl, rfl⟩ | ⟨rfl, rfl⟩ | ⟨rfl, rfl⟩ | ⟨rfl, rfl⟩ | ⟨rfl, rfl⟩ | ⟨rfl, rfl⟩ | ⟨rfl, rfl⟩ | ⟨rfl, rfl⟩ | ⟨rfl, rfl⟩ | ⟨rfl, rfl⟩ | ⟨rfl, rfl⟩ | ⟨rfl, rfl⟩ | ⟨rfl, rfl⟩ | ⟨rfl, rfl⟩ <;> rfl
 have q4 : (j == 4) = false := beq_eq_false_iff_ne.2 (by omega);have q13 : (j == 13) = false := beq_eq_false_iff_ne.2 (by omega);have q1 : (j == 1) = false := beq_eq_false_iff_ne.2 (by omega);have q2 : (j == 2) = false := beq_eq_false_iff_ne.2 (by omega);have q5 : (j == 5) = false := beq_eq_false_iff_ne.2 (by omega);have q8 : (j == 8) = false := beq_eq_false_iff_ne.2 (by omega);have q9 : (j == 9) = false := beq_eq_false_iff_ne.2 (by omega);have q10 : (j == 10) = false := beq_eq_false_iff_ne.2 (by omega);have q14 : (j == 14) = false := beq_eq_false_iff_ne.2 (by omega);have q15 : (j == 15) = false := beq_eq_false_iff_ne.2 (by omega);have q16 : (j == 16) = false := beq_eq_false_iff_ne.2 (by omega);have q17 : (j == 17) = false := beq_eq_false_iff_ne.2 (by omega);have q18 : (j == 18) = false := beq_eq_false_iff_ne.2 (by omega);have q27 : (j == 27) = false := beq_eq_false_iff_ne.2 (by omega);have HX := hid h;have HSG := hid (fun W => BO s 61 W hs);rw [show (((61 : UInt8).toNat : Nat) : Int) = 61 from rfl] at HSG;have HNX : Hid (Ar.xsign 61 s = none → Ar.Bq i s = none) := hid (fun h1 => by rw [Dk (by rw [hk]; rfl), h1]; rfl);have H0 := hid (FdW.of h (Below.refl _ _));have HFG := hid (fun ok cells n W (h : EvOf ok W cells e) hn => Mc ok cells e n W i j hij h hn);have HFC : Hid (∀ T n B b, Ar.xsign 61 s = some T → (b = false → n = 0) → ((b = true ∧ ∃ t, B = bstr t ∧ Ar.xnum T = some (n, t)) ∨ (b = false ∧ Ar.xnum T = none)) → FdC i s b B (.num n)) := hid (fun T n B b h1 h0 h2 => FdC.of (by rw [hk]; rfl) h1 hk.symm (fun hb => by rw [h0 hb]; show Ar.inInt 0; unfold Ar.inInt; omega) (by rw [hk]; exact Ef .num rfl h2));clear h hk hi hij;go_enter Tryz.func57, Tryz.ntmps57;go_wp2_with fail;refine (HSG.out _).mono ?_;rintro r w1 ⟨hsg, rfl⟩;rcases hsg with ⟨r1, hr1, rfl⟩ | ⟨hr1, rfl⟩
 ·have HR1 := hid hr1;have hrl := Ar.AU hr1;have HUQ := hid (fun W => BV (bstr r1) W (by rw [Ab]; omega));rw [show (bstr r1).data.toList = r1 from rfl] at HUQ;clear hr1;generalize hRB : bstr r1 = RB at *;go_wp2_with fail;refine (HUQ.out _).mono ?_;rintro r w5 ⟨hone, hb5⟩;have H5 := hid (FdW.of HX.out hb5);obtain ⟨n, B, b, rfl, h0, hcc⟩ := hone.both;have HC := hid (HFC.out r1 n B b HR1.out h0 hcc);have HF5 := hid (HFG.out _ _ n w5 H5.out.e HC.out.1.2);clear hone hb5 h0 hcc;go_wp2_with (refine wpList_load_row rfl 40 _ rfl w.heap.size rfl 40 _ (0, 0) _ H5.out.k Tryz.underlying40 rfl H5.out.sz ?_);refine HF5.out.mono ?_;rintro r w6 ⟨⟨cs, rfl, he6⟩, hb6⟩;have HE6 := hid he6;have H6 := hid (H5.out.below hb6);have HS6 : Hid ((Tryz.prog.info? 40).map (·.size) = some cs.size) := hid (by rw [Aj, he6.size]);have HC6 : Hid (cells.size = cs.size) := hid (by rw [HX.out.size, he6.size]);have HO6 := hid he6.one;clear he6 hb6
  go_wp2_with (first
   | ((with_reducible refine An rfl 40 _ _ rfl w.heap.size cs ?_ ?_ 40 _ H6.out.k HS6.out ?_ HO6.out ?_); rfl; rfl; exact HC6.out; intro w8 hk8 hs8 hbl8 hot8; have H8 := hid (H6.out.put HE6.out hk8 (hbl8 _ (Nat.le_refl _)) hot8); clear hk8 hot8 hbl8)
   | (refine wpList_load_row rfl 40 _ rfl w.heap.size rfl 40 _ (0, 0) _ H8.out.k Tryz.underlying40 rfl H8.out.sz ?_)
   | ((with_reducible refine An rfl 40 _ _ rfl (w.heap.size + 1) _ ?_ ?_ 40 _ H8.out.r H8.out.sz ?_ H8.out.e.one ?_); rfl; rfl; exact H8.out.zs; intro w9 hk9 hs9 hbl9 hot9))
  refine bodyPost_ret (Ao rfl _ _ (w.heap.size + 1) _ _ _ rfl hk9 Tryz.underlying40 rfl H8.out.sz) rfl ?_;exact H8.out.done HC.out hbl9 hot9
 ·have HNO := hid (HNX.out hr1);clear hr1
  go_wp2_with (first
   | (refine wpList_load_row rfl 40 _ rfl w.heap.size rfl 40 _ (0, 0) _ H0.out.k Tryz.underlying40 rfl H0.out.sz ?_)
   | ((with_reducible refine An rfl 40 _ _ rfl (w.heap.size + 1) _ ?_ ?_ 40 _ (Cy w _ 40 _) H0.out.sz ?_ H0.out.e.one ?_); rfl; rfl; exact H0.out.zs; intro w6 hk6 hs6 hbl6 hot6))
  refine bodyPost_ret (Ao rfl _ _ (w.heap.size + 1) _ _ _ rfl hk6 Tryz.underlying40 rfl H0.out.sz) rfl ?_;exact H0.out.bad HNO.out hbl6
theorem NE (i : Nat) (hi : i < 29) (ok : Nat → Prop) (cells : Array Value) (e : List Ar.FV) (s : List UInt8) (w : World) (h : EvOf ok w cells e) (hs : s.length ≤ 1000000) : Calls Tryz.prog 57 #[.agg cells, .int .i64 i, .string (bstr s)] w fun r w' => FdA ok w.heap.size i s e r w' ∧ Below w.heap.size w w' := by
 match i, hi with
 | 0, _ => exact BG 0 0 (by decide) ok cells e s w h hs
 | 1, _ => exact DA 1 1 (by decide) ok cells e s w h hs
 | 2, _ => exact DA 2 2 (by decide) ok cells e s w h hs
 | 3, _ => exact BG 3 3 (by decide) ok cells e s w h hs
 | 4, _ => exact Je 4 4 (by decide) ok cells e s w h hs
 | 5, _ => exact DA 5 5 (by decide) ok cells e s w h hs
 | 6, _ => exact BG 6 6 (by decide) ok cells e s w h hs
 | 7, _ => exact BG 7 7 (by decide) ok cells e s w h hs
 | 8, _ => exact Ig 8 8 (by decide) ok cells e s w h hs
 | 9, _ => exact Ig 9 9 (by decide) ok cells e s w h hs
 | 10, _ => exact DA 10 10 (by decide) ok cells e s w h hs
 | 11, _ => exact BG 11 11 (by decide) ok cells e s w h hs
 | 12, _ => exact BG 12 12 (by decide) ok cells e s w h hs
 | 13, _ => exact Je 13 13 (by decide) ok cells e s w h hs
 | 14, _ => exact DA 14 14 (by decide) ok cells e s w h hs
 | 15, _ => exact Ih 15 15 (by decide) ok cells e s w h hs
 | 16, _ => exact Ih 16 16 (by decide) ok cells e s w h hs
 | 17, _ => exact LN 17 17 (by decide) ok cells e s w h hs
 | 18, _ => exact LY 18 18 (by decide) ok cells e s w h hs
 | 19, _ => exact BG 19 19 (by decide) ok cells e s w h hs
 | 20, _ => exact BG 20 20 (by decide) ok cells e s w h hs
 | 21, _ => exact BG 21 21 (by decide) ok cells e s w h hs
 | 22, _ => exact BG 22 22 (by decide) ok cells e s w h hs
 | 23, _ => exact BG 23 23 (by decide) ok cells e s w h hs
 | 24, _ => exact BG 24 24 (by decide) ok cells e s w h hs
 | 25, _ => exact BG 25 25 (by decide) ok cells e s w h hs
 | 26, _ => exact BG 26 26 (by decide) ok cells e s w h hs
 | 27, _ => exact DA 27 27 (by decide) ok cells e s w h hs
 | 28, _ => exact BG 28 28 (by decide) ok cells e s w h hs
 | n + 29, hi => omega
structure RJ (W0 : World) (n : Nat) (x : World) (e : List Ar.FV) (cells : Array Value) : Prop where
  bel : Below W0.heap.size W0 x
  res : Blk x W0.heap.size 40 zeroEv
  blk : Blk x (W0.heap.size + 1) 40 cells
  ev : EvOf (fun b => W0.heap.size + 1 < b) x cells e
  fine : ∀ v ∈ e, v.Fine n
theorem RJ.start {W0 : World} {n : Nat} : RJ W0 n ((W0.alloc (.cells zeroEv 40)).alloc (.cells zeroEv 40)) (Ar.zeros Ar.NK) zeroEv where
  bel := ((Below.refl _ _).alloc (Nat.le_refl _) _).alloc (by simp) _
  res := (Blk.new W0 40 zeroEv).alloc _
  blk := Cy W0 _ 40 zeroEv
  ev := GH _ _
  fine v hv := by
    unfold Ar.zeros at hv;obtain ⟨p, _, rfl⟩ := List.mem_map.1 hv;exact Ar.Ew _ _
theorem RJ.big {W0 x : World} {n : Nat} {e : List Ar.FV} {cells : Array Value} (h : RJ W0 n x e cells) : W0.heap.size + 2 ≤ x.heap.size := by have := h.blk.lt; omega
theorem RJ.below {W0 x x' : World} {n : Nat} {e : List Ar.FV} {cells : Array Value} (h : RJ W0 n x e cells) (hb : Below x.heap.size x x') : RJ W0 n x' e cells :=
  ⟨h.bel.trans (hb.mono h.bel.size), h.res.below hb h.res.lt, h.blk.below hb h.blk.lt, h.ev.below hb, h.fine⟩
theorem RJ.next {W0 x w5 w6 w7 : World} {n i : Nat} {e : List Ar.FV} {v : Ar.FV} {cells cells' : Array Value} (h : RJ W0 n x e cells) (hb5 : Below x.heap.size x w5) (he : EvOf (okN (fun b => W0.heap.size + 1 < b) x.heap.size) w5 cells' (e.set i v)) (hf : v.Fine n)
    (h6 : Below w5.heap.size w5 w6) (hk : Blk w7 (W0.heap.size + 1) 40 cells') (ho : ∀ k, k ≠ W0.heap.size + 1 → w7.heap[k]? = w6.heap[k]?) (hb : ∀ B, B ≤ W0.heap.size + 1 → Below B w6 w7) : RJ W0 n w7 (e.set i v) cells' := by
  have hbig := h.big;have h5 := hb5.size;refine ⟨((h.bel.trans (hb5.mono h.bel.size)).trans (h6.mono (by omega))).trans (hb _ (Nat.le_succ _)), ?_, hk, ?_, fun u hu => ?_⟩
  · exact (ho _ (by omega)).trans (((h.res.below hb5 h.res.lt).below h6 (by omega)))
  · refine he.keep fun b hb' hlt => ?_
    have hb2 : W0.heap.size + 1 < b := by rcases hb' with h | h <;> omega
    exact ⟨hb2, (ho b (by omega)).trans (h6.block b hlt)⟩
  · rcases List.mem_or_eq_of_mem_set hu with hu | rfl
    · exact h.fine u hu
    · exact hf
theorem KA {W0 w3 w4 : World} {n : Nat} {e : List Ar.FV} {cells : Array Value} (h : EvOf (fun b => W0.heap.size + 1 < b) w3 cells e) (ho : ∀ k, k ≠ W0.heap.size → w4.heap[k]? = w3.heap[k]?) : EvOf (fun b => W0.heap.size ≤ b) w4 cells e :=
  h.keep fun b hb _ => ⟨by omega, ho b (by omega)⟩
theorem Fd {s : List UInt8} (h : Ar.Bb (s.length + 1) (Ar.zeros Ar.NK) s = none) : Ar.parse s = none := by
  rw [← Ar.Fu]; unfold Ar.Eb; rw [h]
theorem Iu {s : List UInt8} {e : List Ar.FV} (h : Ar.Bb (s.length + 1) (Ar.zeros Ar.NK) s = some e) (hn : Ar.line e ≠ s) : Ar.parse s = none := by
  rw [← Ar.Fu]; unfold Ar.Eb; rw [h]; exact if_neg hn
theorem G6 {s : List UInt8} {e : List Ar.FV} (h : Ar.Bb (s.length + 1) (Ar.zeros Ar.NK) s = some e) (hn : Ar.line e = s) : Ar.parse s = some e := by
  rw [← Ar.Fu]; unfold Ar.Eb; rw [h]; exact if_pos hn
theorem IZ (s : List UInt8) (w : World) (hs : s.length ≤ 100000) : Calls Tryz.prog 24 #[.string (bstr s)] w fun r w' => REv s w.heap.size r w' ∧ Below w.heap.size w w' := by
  have HSZ := Ab s;generalize hSS : bstr s = S at *;go_enter Tryz.func24, Tryz.ntmps24;go_wp2_with fail
  go_loopw [5] (fun sx wr => ∃ (m : Nat) (t : List UInt8) (e : List Ar.FV) (cells : Array Value), sx = .string (bstr t) ∧ RJ w s.length wr e cells ∧ t.length < m ∧ t.length ≤ s.length ∧ Hid (Ar.Bb (s.length + 1) (Ar.zeros Ar.NK) s = Ar.Bb m e t)) (fun sx _ => vlen sx)
  case atStart => exact ⟨s.length + 1, s, Ar.zeros Ar.NK, zeroEv, by rw [hSS], RJ.start, Nat.lt_succ_self _, Nat.le_refl _, hid rfl⟩
  case round =>
    obtain ⟨m, t, e, cells, rfl, hrj, hm, hlt, heq⟩ := hrel
    cases m with
    | zero => exact absurd hm (Nat.not_lt_zero _)
    | succ m =>
      have HRJ := hid hrj;have hbs := hrj.big;have HEQ : Hid (Ar.Bb (s.length + 1) (Ar.zeros Ar.NK) s = Ar.Bb (m + 1) e t) := heq;have hbt := Ab t;clear hrj heq;by_cases ht : t = []
      · have hem := FB ht
        have HEND : Hid (Ar.Bb (s.length + 1) (Ar.zeros Ar.NK) s = some e) := hid (by rw [HEQ.out, ht]; exact Ar.Md);clear ht;generalize hTB : bstr t = TB at *;have HKE := hid HRJ.out.blk;have HSE : Hid ((Tryz.prog.info? 40).map (·.size) = some cells.size) := hid (by rw [Aj, HRJ.out.ev.size])
        go_wp2_with (first
          | (refine B0 (by rfl) 40 _ rfl (w.heap.size + 1) rfl 40 cells (0, 0) _ (by rfl) HKE.out Tryz.underlying40 HSE.out ?_)
          | (refine wpList_load_row rfl 40 _ rfl (w.heap.size + 1) rfl 40 cells (0, 0) _ HKE.out Tryz.underlying40 rfl HSE.out ?_))
        refine (IG _ cells (e) wr HRJ.out.ev (fun v hv => (HRJ.out.fine v hv).1) (Ar.JT (e) s.length hs HRJ.out.fine)).mono ?_;rintro r w3 ⟨rfl, hb3⟩;have HR3 := hid (HRJ.out.below hb3);have HK3 := hid HR3.out.blk;have H1C := hid HR3.out.ev.one;have hcmp := CO (Ar.line (e)) s;rw [hSS] at hcmp;clear hb3;by_cases heq : Ar.line (e) = s
        · have HP := hid (G6 HEND.out heq)
          have hq : ((bstr (Ar.line (e))).toList == S.toList) = true := by rw [hcmp, heq]; exact beq_self_eq_true _
          clear hcmp heq;generalize bstr (Ar.line (e)) = Y at *
          go_wp2_with (first
            | (refine wpList_load_row rfl 40 _ rfl (w.heap.size + 1) rfl 40 cells (0, 0) _ HK3.out Tryz.underlying40 rfl HSE.out ?_)
            | ((with_reducible refine An rfl 40 _ _ rfl w.heap.size cells ?_ ?_ 40 zeroEv HR3.out.res HSE.out ?_ H1C.out ?_); rfl; rfl; exact (HR3.out.ev.size).symm; intro w4 hk4 hs4 hbl4 hot4))
          refine bodyPost_ret (Ac rfl _ _ w.heap.size _ cells _ rfl hk4 Tryz.underlying40 rfl HSE.out) rfl ?_;exact ⟨.inl ⟨e, cells, HP.out, rfl, KA (n := 0) HR3.out.ev hot4⟩, HR3.out.bel.trans (hbl4 _ (Nat.le_refl _))⟩
        · have HP := hid (Iu HEND.out heq)
          have hq : ((bstr (Ar.line (e))).toList == S.toList) = false := by rw [hcmp]; exact beq_eq_false_iff_ne.2 heq
          clear hcmp heq;generalize bstr (Ar.line (e)) = Y at *;go_wp2_with ((with_reducible refine An rfl 40 _ _ rfl w.heap.size zeroEv ?_ ?_ 40 zeroEv HR3.out.res ?_ rfl Br ?_); rfl; rfl; exact Aj; intro wz hkz hsz hblz hotz);refine bodyPost_ret (Ac rfl _ _ w.heap.size _ zeroEv _ rfl hkz Tryz.underlying40 rfl Aj) rfl ?_;exact ⟨.inr ⟨HP.out, rfl⟩, HR3.out.bel.trans (hblz _ (Nat.le_refl _))⟩
      · have hem := Fx ht
        have HNT := hid ht;have HC1 := hid (fun W => Pc t W (by omega));clear ht;generalize hTB : bstr t = TB at *;go_wp2_with fail;refine (HC1.out _).mono ?_;rintro r w2 ⟨hna, hb2⟩;have HR2 := hid (HRJ.out.below hb2);clear hb2;rcases hna with ⟨i, t2, hn, rfl⟩ | ⟨hn, rfl⟩
        · obtain ⟨hi29, hl2⟩ := Ar.Iy hn
          have HN := hid hn;have HK2 := hid HR2.out.blk;have HS2 : Hid ((Tryz.prog.info? 40).map (·.size) = some cells.size) := hid (by rw [Aj, HR2.out.ev.size]);have HF2 := hid (NE i hi29 _ cells e t2 w2 HR2.out.ev (by omega));clear hn;generalize hT2 : bstr t2 = T2 at *
          go_wp2_with (first
            | (refine wpList_load_row rfl 40 _ rfl (w.heap.size + 1) rfl 40 cells (0, 0) _ HK2.out Tryz.underlying40 rfl HS2.out ?_))
          refine HF2.out.mono ?_;rintro r w5 ⟨hfd, hb5⟩;have HB5 := hid hb5;clear hb5;rcases hfd with ⟨v, q, cells', hf, rfl, he5⟩ | ⟨hf, cells', X, rfl, hsz, hone⟩
          · have HF := hid hf
            have HE5 := hid he5;have hql := Ar.Hl hf;have HV : Hid (v.Fine s.length) := hid (Ar.He s.length (by omega) hs hf);have H15 := hid he5.one;have HS5 : Hid ((Tryz.prog.info? 40).map (·.size) = some cells'.size) := hid (by rw [Aj, HE5.out.size]);have HZ5 : Hid (zeroEv.size = cells'.size) := hid (by rw [HE5.out.size]; rfl);have HC5 : Hid (cells.size = cells'.size) := hid (by rw [HE5.out.size, HR2.out.ev.size]);have HL5 := hid (Nat.le_trans HR2.out.big HB5.out.size);have HB2 := hid (HR2.out.blk.below HB5.out HR2.out.blk.lt);have hbq := Ab q;clear hf he5;have HSG := hid (fun W => BO q 32 W (by omega));rw [show (((32 : UInt8).toNat : Nat) : Int) = 32 from rfl] at HSG;by_cases hq : q = []
            · have hemq' := FB hq
              have HEND : Hid (Ar.Bb (s.length + 1) (Ar.zeros Ar.NK) s = some (e.set i v)) := hid (by rw [HEQ.out]; exact Ar.PC HNT.out HN.out (by rw [← hq]; exact HF.out));clear hq;generalize hRQ : bstr q = RQ at *
              go_wp2_with (first
                | ((with_reducible refine An rfl 40 _ _ rfl w5.heap.size cells' ?_ ?_ 40 _ (Blk.new w5 40 _) HS5.out ?_ H15.out ?_); rfl; rfl; exact HZ5.out; intro w6 hk6 hs6 hbl6 hot6
                   have HB6 : Hid (Below w5.heap.size w5 w6) := hid (((Below.refl w5.heap.size w5).alloc (Nat.le_refl _) _).trans (hbl6 w5.heap.size (Nat.le_refl _)));have HK6 := hid hk6;have HB26 := hid (HB2.out.below HB6.out (by have := HL5.out; omega))
                   clear hk6 hot6 hbl6)
                | (refine wpList_load_row rfl 40 _ rfl w5.heap.size rfl 40 cells' (0, 0) _ HK6.out Tryz.underlying40 rfl HS5.out ?_)
                | ((with_reducible refine An rfl 40 _ _ rfl (w.heap.size + 1) cells' ?_ ?_ 40 cells HB26.out HS5.out ?_ H15.out ?_); rfl; rfl; exact HC5.out; intro w7 hk7 hs7 hbl7 hot7
                   have HK7 := hid hk7)
                | (refine wpList_load_row rfl 40 _ rfl (w.heap.size + 1) rfl 40 cells' (0, 0) _ HK7.out Tryz.underlying40 rfl HS5.out ?_))
              have HR7 := hid (HR2.out.next HB5.out HE5.out HV.out HB6.out hk7 hot7 hbl7);clear hk7 hot7 hbl7;have HSE := HS5;refine (IG _ cells' (e.set i v) w7 HR7.out.ev (fun v hv => (HR7.out.fine v hv).1) (Ar.JT (e.set i v) s.length hs HR7.out.fine)).mono ?_;rintro r w3 ⟨rfl, hb3⟩;have HR3 := hid (HR7.out.below hb3);have HK3 := hid HR3.out.blk;have H1C := hid HR3.out.ev.one;have hcmp := CO (Ar.line (e.set i v)) s;rw [hSS] at hcmp;clear hb3;by_cases heq : Ar.line (e.set i v) = s
              · have HP := hid (G6 HEND.out heq)
                have hq : ((bstr (Ar.line (e.set i v))).toList == S.toList) = true := by rw [hcmp, heq]; exact beq_self_eq_true _
                clear hcmp heq;generalize bstr (Ar.line (e.set i v)) = Y at *
                go_wp2_with (first
                  | (refine wpList_load_row rfl 40 _ rfl (w.heap.size + 1) rfl 40 cells' (0, 0) _ HK3.out Tryz.underlying40 rfl HSE.out ?_)
                  | ((with_reducible refine An rfl 40 _ _ rfl w.heap.size cells' ?_ ?_ 40 zeroEv HR3.out.res HSE.out ?_ H1C.out ?_); rfl; rfl; exact (HR3.out.ev.size).symm; intro w4 hk4 hs4 hbl4 hot4))
                refine bodyPost_ret (Ac rfl _ _ w.heap.size _ cells' _ rfl hk4 Tryz.underlying40 rfl HSE.out) rfl ?_;exact ⟨.inl ⟨e.set i v, cells', HP.out, rfl, KA (n := 0) HR3.out.ev hot4⟩, HR3.out.bel.trans (hbl4 _ (Nat.le_refl _))⟩
              · have HP := hid (Iu HEND.out heq)
                have hq : ((bstr (Ar.line (e.set i v))).toList == S.toList) = false := by rw [hcmp]; exact beq_eq_false_iff_ne.2 heq
                clear hcmp heq;generalize bstr (Ar.line (e.set i v)) = Y at *;go_wp2_with ((with_reducible refine An rfl 40 _ _ rfl w.heap.size zeroEv ?_ ?_ 40 zeroEv HR3.out.res ?_ rfl Br ?_); rfl; rfl; exact Aj; intro wz hkz hsz hblz hotz);refine bodyPost_ret (Ac rfl _ _ w.heap.size _ zeroEv _ rfl hkz Tryz.underlying40 rfl Aj) rfl ?_;exact ⟨.inr ⟨HP.out, rfl⟩, HR3.out.bel.trans (hblz _ (Nat.le_refl _))⟩
            · have hemq' := Fx hq
              have HNQ := hid hq;clear hq;generalize hRQ : bstr q = RQ at *
              go_wp2_with (first
                | ((with_reducible refine An rfl 40 _ _ rfl w5.heap.size cells' ?_ ?_ 40 _ (Blk.new w5 40 _) HS5.out ?_ H15.out ?_); rfl; rfl; exact HZ5.out; intro w6 hk6 hs6 hbl6 hot6
                   have HB6 : Hid (Below w5.heap.size w5 w6) := hid (((Below.refl w5.heap.size w5).alloc (Nat.le_refl _) _).trans (hbl6 w5.heap.size (Nat.le_refl _)));have HK6 := hid hk6;have HB26 := hid (HB2.out.below HB6.out (by have := HL5.out; omega))
                   clear hk6 hot6 hbl6)
                | (refine wpList_load_row rfl 40 _ rfl w5.heap.size rfl 40 cells' (0, 0) _ HK6.out Tryz.underlying40 rfl HS5.out ?_)
                | ((with_reducible refine An rfl 40 _ _ rfl (w.heap.size + 1) cells' ?_ ?_ 40 cells HB26.out HS5.out ?_ H15.out ?_); rfl; rfl; exact HC5.out; intro w7 hk7 hs7 hbl7 hot7))
              have HR7 := hid (HR2.out.next HB5.out HE5.out HV.out HB6.out hk7 hot7 hbl7);clear hk7 hot7 hbl7;refine (HSG.out _).mono ?_;rintro r wS ⟨hsg, rfl⟩;rcases hsg with ⟨u, hu, rfl⟩ | ⟨hu, rfl⟩
              · have hul := Ar.AU hu
                have HEN : Hid (Ar.Bb (s.length + 1) (Ar.zeros Ar.NK) s = Ar.Bb m (e.set i v) u) := hid (by rw [HEQ.out]; exact Ar.OG HNT.out HN.out HF.out HNQ.out hu);have hbu := Ab u;clear hu;go_wp2_with fail
                go_roundw
                case rel => exact ⟨m, u, e.set i v, cells', rfl, HR7.out, by omega, by omega, HEN⟩
                case measure => show (bstr u).size < TB.size; omega
              · have HP : Hid (Ar.parse s = none) := hid (Fd (by rw [HEQ.out]; exact Ar.Ql HNT.out HN.out HF.out HNQ.out hu))
                clear hu;go_wp2_with ((with_reducible refine An rfl 40 _ _ rfl w.heap.size zeroEv ?_ ?_ 40 zeroEv HR7.out.res ?_ rfl Br ?_); rfl; rfl; exact Aj; intro wz hkz hsz hblz hotz);refine bodyPost_ret (Ac rfl _ _ w.heap.size _ zeroEv _ rfl hkz Tryz.underlying40 rfl Aj) rfl ?_;exact ⟨.inr ⟨HP.out, rfl⟩, HR7.out.bel.trans (hblz _ (Nat.le_refl _))⟩
          · have HP : Hid (Ar.parse s = none) := hid (Fd (by rw [HEQ.out]; exact Ar.P7 HNT.out HN.out hf))
            have HS5 : Hid ((Tryz.prog.info? 40).map (·.size) = some cells'.size) := hid (by rw [Aj, hsz]);have HZ5 : Hid (zeroEv.size = cells'.size) := hid (by rw [hsz]; rfl);have H15 := hid hone;have HR5 := hid (HR2.out.below HB5.out);clear hf hsz hone
            go_wp2_with (first
              | ((with_reducible refine An rfl 40 _ _ rfl w5.heap.size cells' ?_ ?_ 40 _ (Blk.new w5 40 _) HS5.out ?_ H15.out ?_); rfl; rfl; exact HZ5.out; intro w6 hk6 hs6 hbl6 hot6
                 have HR6 := hid (HR5.out.below (((Below.refl w5.heap.size w5).alloc (Nat.le_refl _) _).trans (hbl6 w5.heap.size (Nat.le_refl _))))
                 clear hk6 hot6 hbl6)
              | ((with_reducible refine An rfl 40 _ _ rfl w.heap.size zeroEv ?_ ?_ 40 zeroEv HR6.out.res ?_ rfl Br ?_); rfl; rfl; exact Aj; intro wz hkz hsz hblz hotz))
            refine bodyPost_ret (Ac rfl _ _ w.heap.size _ zeroEv _ rfl hkz Tryz.underlying40 rfl Aj) rfl ?_;exact ⟨.inr ⟨HP.out, rfl⟩, HR6.out.bel.trans (hblz _ (Nat.le_refl _))⟩
        · have HP : Hid (Ar.parse s = none) := hid (Fd (by rw [HEQ.out]; exact Ar.PF HNT.out hn))
          clear hn;go_wp2_with ((with_reducible refine An rfl 40 _ _ rfl w.heap.size zeroEv ?_ ?_ 40 zeroEv HR2.out.res ?_ rfl Br ?_); rfl; rfl; exact Aj; intro wz hkz hsz hblz hotz);refine bodyPost_ret (Ac rfl _ _ w.heap.size _ zeroEv _ rfl hkz Tryz.underlying40 rfl Aj) rfl ?_;exact ⟨.inr ⟨HP.out, rfl⟩, HR2.out.bel.trans (hblz _ (Nat.le_refl _))⟩
theorem Kz (s : List UInt8) (w : World) (hs : s.length ≤ 100000) : Calls Tryz.prog 144 #[.string (bstr s)] w fun r w' => EvA (Ar.xev s) w.heap.size r w' ∧ Below w.heap.size w w' := by
 have hr0 : Blk (w.alloc (.cells #[.int .i64 0, .string ⟨#[]⟩, .string ⟨#[]⟩, .int .i64 0, .bool false, .string ⟨#[]⟩, .int .i64 0, .int .i64 0, .slice none 0 0, .slice none 0 0, .string ⟨#[]⟩, .int .i64 0, .int .i64 0, .bool false, .string ⟨#[]⟩, .slice none 0 0, .slice none 0 0, .slice none 0 0, .slice none 0 0, .int .i64 0, .int .i64 0, .int .i64 0, .int .i64 0, .int .i64 0, .int .i64 0, .int .i64 0, .int .i64 0, .string ⟨#[]⟩, .int .i64 0] 40)) w.heap.size 40 zeroEv := Blk.new w 40 zeroEv;have hb0 := (Below.refl w.heap.size w).alloc (Nat.le_refl _) (.cells #[.int .i64 0, .string ⟨#[]⟩, .string ⟨#[]⟩, .int .i64 0, .bool false, .string ⟨#[]⟩, .int .i64 0, .int .i64 0, .slice none 0 0, .slice none 0 0, .string ⟨#[]⟩, .int .i64 0, .int .i64 0, .bool false, .string ⟨#[]⟩, .slice none 0 0, .slice none 0 0, .slice none 0 0, .slice none 0 0, .int .i64 0, .int .i64 0, .int .i64 0, .int .i64 0, .int .i64 0, .int .i64 0, .int .i64 0, .int .i64 0, .string ⟨#[]⟩, .int .i64 0] 40);generalize hw0 : w.alloc (.cells #[.int .i64 0, .string ⟨#[]⟩, .string ⟨#[]⟩, .int .i64 0, .bool false, .string ⟨#[]⟩, .int .i64 0, .int .i64 0, .slice none 0 0, .slice none 0 0, .string ⟨#[]⟩, .int .i64 0, .int .i64 0, .bool false, .string ⟨#[]⟩, .slice none 0 0, .slice none 0 0, .slice none 0 0, .slice none 0 0, .int .i64 0, .int .i64 0, .int .i64 0, .int .i64 0, .int .i64 0, .int .i64 0, .int .i64 0, .int .i64 0, .string ⟨#[]⟩, .int .i64 0] 40) = w0 at *;have HR0 := hid hr0;have HB0 := hid hb0;have hs0 : w.heap.size < w0.heap.size := hr0.lt;clear hr0 hb0;by_cases h0 : s = []
 ·have HX : Hid (Ar.xev s = some (Ar.zeros Ar.NK)) := hid (by unfold Ar.xev; rw [if_pos h0]);have he := emp_t h0;clear h0;generalize bstr s = S at *;go_enter Tryz.func144, Tryz.ntmps144;go_wp2_with ((with_reducible refine Aa rfl 40 _ _ rfl w.heap.size zeroEv ?_ ?_ 40 zeroEv HR0.out ?_ rfl Br ?_); rfl; rfl; exact Aj; intro wz hkz hsz hblz hotz);refine bodyPost_ret (Ac rfl _ _ w.heap.size _ zeroEv _ rfl hkz Tryz.underlying40 rfl Aj) rfl ?_;exact ⟨.inl ⟨_, zeroEv, HX.out, rfl, GH _ _⟩, HB0.out.trans (hblz _ (Nat.le_refl _))⟩
 ·have he := emp_f h0;have HXV : Hid (Ar.xev s = (Ar.xsign 32 s).bind fun t => if t = [] then none else Ar.parse t) := hid (by unfold Ar.xev; rw [if_neg h0]);have HSG := hid (fun W => CJ s W (by omega));clear h0;generalize bstr s = S at *;go_enter Tryz.func144, Tryz.ntmps144;go_wp2_with fail;refine (HSG.out _).mono ?_;rintro r w1 ⟨hsg, hw1⟩;subst hw1;rcases hsg with ⟨u, hu, rfl⟩ | ⟨hu, rfl⟩
  ·have hul := Ar.AU hu;by_cases hu0 : u = []
   ·have HX : Hid (Ar.xev s = none) := hid (by rw [HXV.out, hu, Option.bind_some, if_pos hu0]);have he2 := emp_t hu0;clear hu hu0;generalize bstr u = U at *;go_wp2_with ((with_reducible refine Aa rfl 40 _ _ rfl w.heap.size zeroEv ?_ ?_ 40 zeroEv HR0.out ?_ rfl Br ?_); rfl; rfl; exact Aj; intro wz hkz hsz hblz hotz);refine bodyPost_ret (Ac rfl _ _ w.heap.size _ zeroEv _ rfl hkz Tryz.underlying40 rfl Aj) rfl ?_;exact ⟨.inr ⟨HX.out, zeroEv, rfl, rfl, Br⟩, HB0.out.trans (hblz _ (Nat.le_refl _))⟩
   ·have HXV2 : Hid (Ar.xev s = Ar.parse u) := hid (by rw [HXV.out, hu, Option.bind_some, if_neg hu0]);have he2 := emp_f hu0;have HRE := hid (fun W => IZ u W (by omega));clear hu hu0;generalize bstr u = U at *;go_wp2_with fail;refine (HRE.out _).mono ?_;rintro r w2 ⟨hrev, hb2⟩;have HB2 := hid (HB0.out.trans (hb2.mono HB0.out.size));have HR2 := hid (HR0.out.below hb2 HR0.out.lt);have hs2 := HR2.out.lt;clear hb2;rcases hrev with ⟨e, X, hpe, rfl, hx⟩ | ⟨hpe, rfl⟩
    ·have HX : Hid (Ar.xev s = some e) := hid (by rw [HXV2.out, hpe]);have HS2 : Hid ((Tryz.prog.info? 40).map (·.size) = some X.size) := hid (by rw [Aj, hx.size]);have HO2 := hid hx.one;have HZ2 : Hid (zeroEv.size = X.size) := hid (by rw [hx.size]; rfl);have HX2 : Hid (EvOf (fun b => w.heap.size < b) w2 X e) := hid (hx.keep fun b hb _ => ⟨by omega, rfl⟩);clear hpe hx
     go_wp2_with (first
      | ((with_reducible refine AF rfl 40 _ _ rfl w2.heap.size X ?_ ?_ 40 _ (Blk.new w2 40 _) HS2.out ?_ HO2.out ?_); rfl; rfl; exact HZ2.out; intro w3 hk3 hs3 hbl3; have hz3 := ((Below.refl w2.heap.size w2).alloc (Nat.le_refl _) (.cells zeroEv 40)).trans (hbl3 w2.heap.size (Nat.le_refl _)); have HB3 := hid (HB2.out.trans (hz3.mono HB2.out.size)); have HX3 := hid (HX2.out.below hz3); have HR3 := hid (HR2.out.below hz3 hs2); have HK3 := hid hk3; clear hk3 hs3 hbl3 hz3)
      | (refine wpList_load_row rfl 40 _ rfl w2.heap.size rfl 40 X (0, 0) _ HK3.out Tryz.underlying40 rfl HS2.out ?_)
      | ((with_reducible refine Aa rfl 40 _ _ rfl w.heap.size X ?_ ?_ 40 zeroEv HR3.out HS2.out ?_ HO2.out ?_); rfl; rfl; exact HZ2.out; intro wz hkz hsz hblz hotz))
     refine bodyPost_ret (Ac rfl _ _ w.heap.size _ X _ rfl hkz Tryz.underlying40 rfl HS2.out) rfl ?_;exact ⟨.inl ⟨e, X, HX.out, rfl, HX3.out.keep fun b hb _ => ⟨Nat.le_of_lt hb, hotz b (by omega)⟩⟩, HB3.out.trans (hblz _ (Nat.le_refl _))⟩
    ·have HX : Hid (Ar.xev s = none) := hid (by rw [HXV2.out, hpe]);have HS2 : Hid ((Tryz.prog.info? 40).map (·.size) = some zeroEv.size) := hid (by rw [Aj]; rfl);clear hpe
     go_wp2_with (first
      | ((with_reducible refine AF rfl 40 _ _ rfl w2.heap.size zeroEv ?_ ?_ 40 _ (Blk.new w2 40 _) HS2.out ?_ Br ?_); rfl; rfl; rfl; intro w3 hk3 hs3 hbl3; have hz3 := ((Below.refl w2.heap.size w2).alloc (Nat.le_refl _) (.cells zeroEv 40)).trans (hbl3 w2.heap.size (Nat.le_refl _)); have HB3 := hid (HB2.out.trans (hz3.mono HB2.out.size)); have HR3 := hid (HR2.out.below hz3 hs2); have HK3 := hid hk3; clear hk3 hs3 hbl3 hz3)
      | (refine wpList_load_row rfl 40 _ rfl w2.heap.size rfl 40 zeroEv (0, 0) _ HK3.out Tryz.underlying40 rfl HS2.out ?_)
      | ((with_reducible refine Aa rfl 40 _ _ rfl w.heap.size zeroEv ?_ ?_ 40 zeroEv HR3.out HS2.out ?_ Br ?_); rfl; rfl; rfl; intro wz hkz hsz hblz hotz))
     refine bodyPost_ret (Ac rfl _ _ w.heap.size _ zeroEv _ rfl hkz Tryz.underlying40 rfl HS2.out) rfl ?_;exact ⟨.inr ⟨HX.out, zeroEv, rfl, rfl, Br⟩, HB3.out.trans (hblz _ (Nat.le_refl _))⟩
  ·have HX : Hid (Ar.xev s = none) := hid (by rw [HXV.out, hu]; rfl);clear hu;go_wp2_with ((with_reducible refine Aa rfl 40 _ _ rfl w.heap.size zeroEv ?_ ?_ 40 zeroEv HR0.out ?_ rfl Br ?_); rfl; rfl; exact Aj; intro wz hkz hsz hblz hotz);refine bodyPost_ret (Ac rfl _ _ w.heap.size _ zeroEv _ rfl hkz Tryz.underlying40 rfl Aj) rfl ?_;exact ⟨.inr ⟨HX.out, zeroEv, rfl, rfl, Br⟩, HB0.out.trans (hblz _ (Nat.le_refl _))⟩
def HeA (x : Option (List UInt8 × Int)) (e : Ending) : Prop := (∃ i n, x = some (i, n) ∧ e = .returned (.tuple #[.agg #[.string (bstr i), nilS, nilS, nilS, nilS, nilS, .int .i64 n, nilS, nilS], .bool true])) ∨ (x = none ∧ ∃ cells : Array Value, e = .returned (.tuple #[.agg cells, .bool false]) ∧ cells.size = 9 ∧ cells.all (·.oneCell') = true)
theorem Qn {s t : List UInt8} (h : Ar.xpre Ar.headW s = some t) : Ar.xhead s = (Ar.At t).bind fun p => if p.2 = [] then some (p.1, 0) else (Ar.xpre Ar.nextW p.2).bind fun u => (Ar.rint u).bind fun n => if n = 0 then none else some (p.1, n) := by unfold Ar.xhead; rw [h]; rfl
def PrA (x : Option (List UInt8)) (e : Ending) : Prop := (∃ t, x = some t ∧ e = .returned (.tuple #[.string (bstr t), .bool true])) ∨ (x = none ∧ e = .returned (.tuple #[.string ⟨#[]⟩, .bool false]))
theorem IQ (s p : List UInt8) (w : World) (hs : s.length ≤ 1000000) (hp : p.length ≤ 1000000) : Calls Tryz.prog 99 #[.string (bstr s), .string (bstr p)] w fun e w' => PrA (Ar.xpre p s) e ∧ w' = w := by
 refine (G9 s p w hs hp).mono ?_;rintro e w' ⟨rfl, rfl⟩;refine ⟨?_, rfl⟩;unfold Ar.xpre
 cases h : Lib.hasPrefix s p with
 | true => rw [if_pos rfl, if_pos rfl]; exact .inl ⟨_, rfl, rfl⟩
 | false => rw [if_neg (by decide), if_neg (by decide)]; exact .inr ⟨rfl, rfl⟩
theorem Nh (s : List UInt8) (w : World) (hs : s.length ≤ 100000) : Calls Tryz.prog 83 #[.agg zRm, .string (bstr s)] w fun r w' => HeA (Ar.xhead s) r ∧ Below w.heap.size w w' := by
 have hk0 : Blk ((w.alloc (.cells zRm 55)).alloc (.cells zRm 55)) w.heap.size 55 zRm := (Blk.new w 55 zRm).alloc _;have hr0 : Blk ((w.alloc (.cells zRm 55)).alloc (.cells zRm 55)) (w.heap.size + 1) 55 zRm := Cy w _ 55 zRm;have hb0 := ((Below.refl w.heap.size w).alloc (Nat.le_refl _) (.cells zRm 55)).alloc (by simp) (.cells zRm 55);generalize hw0 : (w.alloc (.cells zRm 55)).alloc (.cells zRm 55) = w0 at *;have HK0 := hid hk0;have HR0 := hid hr0;have HB0 := hid hb0;clear hk0 hr0 hb0;have HP1 := hid (fun W => IQ s Ar.headW W (by omega) (by decide));rw [show bstr Ar.headW = (⟨#[114, 111, 111, 109, 32]⟩ : ByteArray) from rfl] at HP1;generalize hSB : bstr s = S at *;go_enter Tryz.func83, Tryz.ntmps83;go_wp2_with fail;refine (HP1.out _).mono ?_;rintro r w1 ⟨hpr, hw1⟩;subst hw1;rcases hpr with ⟨t, ht, rfl⟩ | ⟨ht, rfl⟩
 ·have HXH := hid (Qn ht);have htl : t.length ≤ s.length := by have := Ar.Fp ht; rw [this, List.length_append]; omega
  have HUQ := hid (fun W => DR t W (by omega));clear ht;generalize hTB : bstr t = TB at *;go_wp2_with fail;refine (HUQ.out _).mono ?_;rintro r w2 ⟨hun, hb2⟩;have HK2 := hid (HK0.out.below hb2 HK0.out.lt);have HR2 := hid (HR0.out.below hb2 HR0.out.lt);have HB2 := hid (HB0.out.trans (hb2.mono HB0.out.size));have hc2 := HK2.out.cell 0;have hf2 := HK2.out.frozen 0;rw [show (zRm : Array Value)[0]? = some (.string ⟨#[]⟩) from rfl] at hc2;clear hb2;rcases hun with ⟨i, v, hiv, rfl⟩ | ⟨hiv, rfl⟩
  ·have hvl := Ar.J1 hiv;have HK3 := hid (HK2.out.set_ 0 (.string (bstr i)));rw [show (zRm : Array Value).setIfInBounds 0 (.string (bstr i)) = #[.string (bstr i), nilS, nilS, nilS, nilS, nilS, .int .i64 0, nilS, nilS] from rfl] at HK3;have HR3 := hid (HR2.out.far (p := ⟨w.heap.size, 0, none⟩) (by show w.heap.size + 1 ≠ w.heap.size; omega) (.string (bstr i)));have HB3 := hid (HB2.out.setCell (p := ⟨w.heap.size, 0, none⟩) (Nat.le_refl _) (.string (bstr i)));generalize hw3 : w2.setCell ⟨w.heap.size, 0, none⟩ (.string (bstr i)) = w3 at *;by_cases hv0 : v = []
   ·have HX : Hid (Ar.xhead s = some (i, 0)) := hid (by rw [HXH.out, hiv, Option.bind_some]; exact if_pos hv0);have he := emp_t hv0;clear hiv hv0;generalize bstr v = VB at *
    go_wp2_with (first
     | (refine wpList_load_row rfl 55 _ rfl w.heap.size rfl 55 #[.string (bstr i), nilS, nilS, nilS, nilS, nilS, .int .i64 0, nilS, nilS] (0, 0) _ HK3.out Tryz.underlying55 rfl Ah ?_)
     | ((with_reducible refine Aa rfl 55 _ _ rfl (w.heap.size + 1) #[.string (bstr i), nilS, nilS, nilS, nilS, nilS, .int .i64 0, nilS, nilS] ?_ ?_ 55 zRm HR3.out ?_ rfl (by simp [Value.oneCell']) ?_); rfl; rfl; exact Ah; intro wz hkz hsz hblz hotz))
    refine bodyPost_ret (Ac rfl _ _ (w.heap.size + 1) _ #[.string (bstr i), nilS, nilS, nilS, nilS, nilS, .int .i64 0, nilS, nilS] _ rfl hkz Tryz.underlying55 rfl Ah) rfl ?_;exact ⟨.inl ⟨i, 0, HX.out, rfl⟩, HB3.out.trans (hblz _ (Nat.le_succ _))⟩
   ·have HXH2 : Hid (Ar.xhead s = (Ar.xpre Ar.nextW v).bind fun u => (Ar.rint u).bind fun n => if n = 0 then none else some (i, n)) := hid (by rw [HXH.out, hiv, Option.bind_some]; exact if_neg hv0);have he := emp_f hv0;have HP2 := hid (fun W => IQ v Ar.nextW W (by omega) (by decide));rw [show bstr Ar.nextW = (⟨#[32, 110, 101, 120, 116, 61]⟩ : ByteArray) from rfl] at HP2;clear hiv hv0;generalize bstr v = VB at *;go_wp2_with fail;refine (HP2.out _).mono ?_;rintro r w4 ⟨hpr, hw4⟩;subst hw4;rcases hpr with ⟨u, hu, rfl⟩ | ⟨hu, rfl⟩
    ·have hul : u.length ≤ v.length := by have := Ar.Fp hu; rw [this, List.length_append]; omega
     have HXH3 : Hid (Ar.xhead s = (Ar.rint u).bind fun n => if n = 0 then none else some (i, n)) := hid (by rw [HXH2.out, hu]; rfl);have HIN := hid (fun W => Kb u W (by omega));clear hu;generalize bstr u = UB at *;go_wp2_with fail;refine (HIN.out _).mono ?_;rintro r w4 ⟨hin, hb4⟩;have HK4 := hid (HK3.out.below hb4 HK3.out.lt);have HR4 := hid (HR3.out.below hb4 HR3.out.lt);have HB4 := hid (HB3.out.trans (hb4.mono HB3.out.size));have hc4 := HK4.out.cell 6;have hf4 := HK4.out.frozen 6;rw [show (#[.string (bstr i), nilS, nilS, nilS, nilS, nilS, .int .i64 0, nilS, nilS] : Array Value)[6]? = some (.int .i64 0) from rfl] at hc4;clear hb4;have key : ∀ n : Int, Hid (Blk (w4.setCell ⟨w.heap.size, 6, none⟩ (.int .i64 n)) w.heap.size 55 #[.string (bstr i), nilS, nilS, nilS, nilS, nilS, .int .i64 n, nilS, nilS]) ∧ Hid (Blk (w4.setCell ⟨w.heap.size, 6, none⟩ (.int .i64 n)) (w.heap.size + 1) 55 zRm) ∧ Hid (Below w.heap.size w (w4.setCell ⟨w.heap.size, 6, none⟩ (.int .i64 n))) := fun n => ⟨hid (HK4.out.set_ 6 (.int .i64 n)), hid (HR4.out.far (p := ⟨w.heap.size, 6, none⟩) (by show w.heap.size + 1 ≠ w.heap.size; omega) (.int .i64 n)), hid (HB4.out.setCell (p := ⟨w.heap.size, 6, none⟩) (Nat.le_refl _) (.int .i64 n))⟩
     rcases hin with ⟨n, hn, rfl⟩ | ⟨hn, n, rfl⟩
     ·obtain ⟨HK5, HR5, HB5⟩ := key n;clear key;generalize hw5 : w4.setCell ⟨w.heap.size, 6, none⟩ (.int .i64 n) = w5 at *;by_cases hn0 : n = 0
      ·have HX : Hid (Ar.xhead s = none) := hid (by rw [HXH3.out, hn, Option.bind_some, if_pos hn0]);have hd : (n != 0) = false := by rw [hn0]; rfl
       clear hn hn0;have hc5 := HK5.out.cell 6;rw [show (#[.string (bstr i), nilS, nilS, nilS, nilS, nilS, .int .i64 n, nilS, nilS] : Array Value)[6]? = some (.int .i64 n) from rfl] at hc5;go_wp2_with fail;refine wp_region_noPanic ?_;refine wp_region_held_drew (S := fun W => Blk W w.heap.size 55 #[.string (bstr i), nilS, nilS, nilS, nilS, nilS, .int .i64 n, nilS, nilS] ∧ W.cell? ⟨w.heap.size, 6, none⟩ = some (.int .i64 n)) (by kernel_rfl) ⟨HK5.out.drew, hc5⟩ (fun hHeld => ?_);refine wpAnyH_take (i := 0) (oi := _) (v := _) rfl (by kernel_rfl) (by kernel_rfl) (by kernel_rfl) (fun _ _ _ h => h) (Dg rfl Tryz.underlying55 (X := #[.string (bstr i), nilS, nilS, nilS, nilS, nilS, .int .i64 n, nilS, nilS]) Ah (fun W h => h.1) (by rfl) _ rfl rfl) hHeld ?_
       (try simp only [Act.put, pk1, pk2, pk3, pk4, pk5, pk6])
       refine wpAnyH_take (i := 1) (oi := _) (v := ?_) rfl (by kernel_rfl) (by kernel_rfl) (by kernel_rfl) (fun _ _ _ h => h) (Or.inl ⟨by rfl, ?_⟩) hHeld ?_;rotate_left
       ·intro wq hSw;have hSw2 := hSw.2;go_simp
        (try with_reducible rfl)
       (try simp only [Act.put, pk1, pk2, pk3, pk4, pk5, pk6])
       refine wpAnyH_take (i := 2) (oi := _) (v := ?_) rfl (by kernel_rfl) (by kernel_rfl) (by kernel_rfl) (fun _ _ _ h => h) (Or.inl ⟨by rfl, ?_⟩) hHeld ?_;rotate_left
       ·intro wq hSw;have hSw2 := hSw.2;go_simp
        (try with_reducible rfl)
       (try simp only [Act.put, pk1, pk2, pk3, pk4, pk5, pk6])
       refine wpAnyH_take (i := 3) (oi := _) (v := ?_) rfl (by kernel_rfl) (by kernel_rfl) (by kernel_rfl) (fun _ _ _ h => h) (Or.inl ⟨by rfl, ?_⟩) hHeld ?_;rotate_left
       ·intro wq hSw;have hSw2 := hSw.2;go_simp
        (try with_reducible rfl)
       (try simp only [Act.put, pk1, pk2, pk3, pk4, pk5, pk6])
       refine wpAnyH_take (i := 4) (oi := _) (v := ?_) rfl (by kernel_rfl) (by kernel_rfl) (by kernel_rfl) (fun _ _ _ h => h) (Or.inl ⟨by rfl, ?_⟩) hHeld ?_;rotate_left
       ·intro wq hSw;have hSw2 := hSw.2;go_simp
        (try with_reducible rfl)
       (try simp only [Act.put, pk1, pk2, pk3, pk4, pk5, pk6])
       refine wpAnyH_take (i := 5) (oi := _) (v := ?_) rfl (by kernel_rfl) (by kernel_rfl) (by kernel_rfl) (fun _ _ _ h => h) (Or.inl ⟨by rfl, ?_⟩) hHeld ?_;rotate_left
       ·intro wq hSw;have hSw2 := hSw.2;go_simp
        (try with_reducible rfl)
       (try simp only [Act.put, pk1, pk2, pk3, pk4, pk5, pk6])
       refine wpAnyH_take (i := 6) (oi := _) (v := ?_) rfl (by kernel_rfl) (by kernel_rfl) (by kernel_rfl) (fun _ _ _ h => h) (Or.inl ⟨by rfl, ?_⟩) hHeld ?_;rotate_left
       ·intro wq hSw;have hSw2 := hSw.2;go_simp
        (try with_reducible rfl)
       (try simp only [Act.put, pk1, pk2, pk3, pk4, pk5, pk6])
       refine wpAnyH_ready (rs := [7]) (by kernel_rfl) (by simp) ?_;refine AllReadyH.cons (o := _) rfl (fun K hK => ?_) AllReadyH.nil;rw [if_pos (by rfl)];refine wp_store_row 55 _ _ rfl (w.heap.size + 1) #[.string (bstr i), nilS, nilS, nilS, nilS, nilS, .int .i64 n, nilS, nilS] rfl rfl 55 zRm HR5.out.drew Ah rfl (by simp [Value.oneCell']) ?_;have hHeld2 : Blk (w5.drew.setRow (w.heap.size + 1) #[.string (bstr i), nilS, nilS, nilS, nilS, nilS, .int .i64 n, nilS, nilS]) w.heap.size 55 #[.string (bstr i), nilS, nilS, nilS, nilS, nilS, .int .i64 n, nilS, nilS] ∧ (w5.drew.setRow (w.heap.size + 1) #[.string (bstr i), nilS, nilS, nilS, nilS, nilS, .int .i64 n, nilS, nilS]).cell? ⟨w.heap.size, 6, none⟩ = some (.int .i64 n) := by
        have h1 : Blk (w5.drew.setRow (w.heap.size + 1) #[.string (bstr i), nilS, nilS, nilS, nilS, nilS, .int .i64 n, nilS, nilS]) w.heap.size 55 #[.string (bstr i), nilS, nilS, nilS, nilS, nilS, .int .i64 n, nilS, nilS] := (setRow_other _ _ _ _ (by omega)).trans HK5.out.drew;exact ⟨h1, h1.cell 6⟩
       refine hK.out _ _ hHeld2 (fun _ => ?_);clear hK K hHeld;have hHeld := hHeld2
       (try simp only [Act.put, pk1, pk2, pk3, pk4, pk5, pk6])
       refine wpAnyH_take (i := 8) (oi := _) (v := ?_) rfl (by kernel_rfl) (by kernel_rfl) (by kernel_rfl) (fun _ _ _ h => h) (Or.inl ⟨by rfl, ?_⟩) hHeld ?_;rotate_left
       ·intro wq hSw;have hSw2 := hSw.2;go_simp
        (try with_reducible rfl)
       (try simp only [Act.put, pk1, pk2, pk3, pk4, pk5, pk6])
       refine wpAnyH_done (by kernel_rfl) ?_ _;refine NoPanic.normal ?_;have HKZ := hid (setRow_heap w5.drew (w.heap.size + 1) zRm #[.string (bstr i), nilS, nilS, nilS, nilS, nilS, .int .i64 n, nilS, nilS] 55 (0, 0) HR5.out.drew);have HBZ := hid (below_setRow (g := w.heap.size + 1) (HB5.out.drew) (Nat.le_succ _) #[.string (bstr i), nilS, nilS, nilS, nilS, nilS, .int .i64 n, nilS, nilS]);go_wp2_with fail;refine bodyPost_ret (Ac rfl _ _ (w.heap.size + 1) _ #[.string (bstr i), nilS, nilS, nilS, nilS, nilS, .int .i64 n, nilS, nilS] _ rfl HKZ.out Tryz.underlying55 rfl Ah) rfl ?_;exact ⟨.inr ⟨HX.out, _, rfl, rfl, by simp [Value.oneCell']⟩, HBZ.out⟩
      ·have HX : Hid (Ar.xhead s = some (i, n)) := hid (by rw [HXH3.out, hn, Option.bind_some, if_neg hn0]);have hd : (n != 0) = true := by rw [bne_iff_ne]; exact hn0
       clear hn hn0;have hc5 := HK5.out.cell 6;rw [show (#[.string (bstr i), nilS, nilS, nilS, nilS, nilS, .int .i64 n, nilS, nilS] : Array Value)[6]? = some (.int .i64 n) from rfl] at hc5;go_wp2_with fail;refine wp_region_noPanic ?_;refine wp_region_held_drew (S := fun W => Blk W w.heap.size 55 #[.string (bstr i), nilS, nilS, nilS, nilS, nilS, .int .i64 n, nilS, nilS] ∧ W.cell? ⟨w.heap.size, 6, none⟩ = some (.int .i64 n)) (by kernel_rfl) ⟨HK5.out.drew, hc5⟩ (fun hHeld => ?_);refine wpAnyH_take (i := 0) (oi := _) (v := _) rfl (by kernel_rfl) (by kernel_rfl) (by kernel_rfl) (fun _ _ _ h => h) (Dg rfl Tryz.underlying55 (X := #[.string (bstr i), nilS, nilS, nilS, nilS, nilS, .int .i64 n, nilS, nilS]) Ah (fun W h => h.1) (by rfl) _ rfl rfl) hHeld ?_
       (try simp only [Act.put, pk1, pk2, pk3, pk4, pk5, pk6])
       refine wpAnyH_take (i := 1) (oi := _) (v := ?_) rfl (by kernel_rfl) (by kernel_rfl) (by kernel_rfl) (fun _ _ _ h => h) (Or.inl ⟨by rfl, ?_⟩) hHeld ?_;rotate_left
       ·intro wq hSw;have hSw2 := hSw.2;go_simp
        (try with_reducible rfl)
       (try simp only [Act.put, pk1, pk2, pk3, pk4, pk5, pk6])
       refine wpAnyH_take (i := 2) (oi := _) (v := ?_) rfl (by kernel_rfl) (by kernel_rfl) (by kernel_rfl) (fun _ _ _ h => h) (Or.inl ⟨by rfl, ?_⟩) hHeld ?_;rotate_left
       ·intro wq hSw;have hSw2 := hSw.2;go_simp
        (try with_reducible rfl)
       (try simp only [Act.put, pk1, pk2, pk3, pk4, pk5, pk6])
       refine wpAnyH_take (i := 3) (oi := _) (v := ?_) rfl (by kernel_rfl) (by kernel_rfl) (by kernel_rfl) (fun _ _ _ h => h) (Or.inl ⟨by rfl, ?_⟩) hHeld ?_;rotate_left
       ·intro wq hSw;have hSw2 := hSw.2;go_simp
        (try with_reducible rfl)
       (try simp only [Act.put, pk1, pk2, pk3, pk4, pk5, pk6])
       refine wpAnyH_take (i := 4) (oi := _) (v := ?_) rfl (by kernel_rfl) (by kernel_rfl) (by kernel_rfl) (fun _ _ _ h => h) (Or.inl ⟨by rfl, ?_⟩) hHeld ?_;rotate_left
       ·intro wq hSw;have hSw2 := hSw.2;go_simp
        (try with_reducible rfl)
       (try simp only [Act.put, pk1, pk2, pk3, pk4, pk5, pk6])
       refine wpAnyH_take (i := 5) (oi := _) (v := ?_) rfl (by kernel_rfl) (by kernel_rfl) (by kernel_rfl) (fun _ _ _ h => h) (Or.inl ⟨by rfl, ?_⟩) hHeld ?_;rotate_left
       ·intro wq hSw;have hSw2 := hSw.2;go_simp
        (try with_reducible rfl)
       (try simp only [Act.put, pk1, pk2, pk3, pk4, pk5, pk6])
       refine wpAnyH_take (i := 6) (oi := _) (v := ?_) rfl (by kernel_rfl) (by kernel_rfl) (by kernel_rfl) (fun _ _ _ h => h) (Or.inl ⟨by rfl, ?_⟩) hHeld ?_;rotate_left
       ·intro wq hSw;have hSw2 := hSw.2;go_simp
        (try with_reducible rfl)
       (try simp only [Act.put, pk1, pk2, pk3, pk4, pk5, pk6])
       refine wpAnyH_ready (rs := [7]) (by kernel_rfl) (by simp) ?_;refine AllReadyH.cons (o := _) rfl (fun K hK => ?_) AllReadyH.nil;rw [if_pos (by rfl)];refine wp_store_row 55 _ _ rfl (w.heap.size + 1) #[.string (bstr i), nilS, nilS, nilS, nilS, nilS, .int .i64 n, nilS, nilS] rfl rfl 55 zRm HR5.out.drew Ah rfl (by simp [Value.oneCell']) ?_;have hHeld2 : Blk (w5.drew.setRow (w.heap.size + 1) #[.string (bstr i), nilS, nilS, nilS, nilS, nilS, .int .i64 n, nilS, nilS]) w.heap.size 55 #[.string (bstr i), nilS, nilS, nilS, nilS, nilS, .int .i64 n, nilS, nilS] ∧ (w5.drew.setRow (w.heap.size + 1) #[.string (bstr i), nilS, nilS, nilS, nilS, nilS, .int .i64 n, nilS, nilS]).cell? ⟨w.heap.size, 6, none⟩ = some (.int .i64 n) := by
        have h1 : Blk (w5.drew.setRow (w.heap.size + 1) #[.string (bstr i), nilS, nilS, nilS, nilS, nilS, .int .i64 n, nilS, nilS]) w.heap.size 55 #[.string (bstr i), nilS, nilS, nilS, nilS, nilS, .int .i64 n, nilS, nilS] := (setRow_other _ _ _ _ (by omega)).trans HK5.out.drew;exact ⟨h1, h1.cell 6⟩
       refine hK.out _ _ hHeld2 (fun _ => ?_);clear hK K hHeld;have hHeld := hHeld2
       (try simp only [Act.put, pk1, pk2, pk3, pk4, pk5, pk6])
       refine wpAnyH_take (i := 8) (oi := _) (v := ?_) rfl (by kernel_rfl) (by kernel_rfl) (by kernel_rfl) (fun _ _ _ h => h) (Or.inl ⟨by rfl, ?_⟩) hHeld ?_;rotate_left
       ·intro wq hSw;have hSw2 := hSw.2;go_simp
        (try with_reducible rfl)
       (try simp only [Act.put, pk1, pk2, pk3, pk4, pk5, pk6])
       refine wpAnyH_done (by kernel_rfl) ?_ _;refine NoPanic.normal ?_;have HKZ := hid (setRow_heap w5.drew (w.heap.size + 1) zRm #[.string (bstr i), nilS, nilS, nilS, nilS, nilS, .int .i64 n, nilS, nilS] 55 (0, 0) HR5.out.drew);have HBZ := hid (below_setRow (g := w.heap.size + 1) (HB5.out.drew) (Nat.le_succ _) #[.string (bstr i), nilS, nilS, nilS, nilS, nilS, .int .i64 n, nilS, nilS]);go_wp2_with fail;refine bodyPost_ret (Ac rfl _ _ (w.heap.size + 1) _ #[.string (bstr i), nilS, nilS, nilS, nilS, nilS, .int .i64 n, nilS, nilS] _ rfl HKZ.out Tryz.underlying55 rfl Ah) rfl ?_;exact ⟨.inl ⟨i, n, HX.out, rfl⟩, HBZ.out⟩
     ·obtain ⟨HK5, HR5, HB5⟩ := key n;clear key;generalize hw5 : w4.setCell ⟨w.heap.size, 6, none⟩ (.int .i64 n) = w5 at *;have HX : Hid (Ar.xhead s = none) := hid (by rw [HXH3.out, hn]; rfl);clear hn;have hc5 := HK5.out.cell 6;rw [show (#[.string (bstr i), nilS, nilS, nilS, nilS, nilS, .int .i64 n, nilS, nilS] : Array Value)[6]? = some (.int .i64 n) from rfl] at hc5;go_wp2_with fail;refine wp_region_noPanic ?_;refine wp_region_held_drew (S := fun W => Blk W w.heap.size 55 #[.string (bstr i), nilS, nilS, nilS, nilS, nilS, .int .i64 n, nilS, nilS] ∧ W.cell? ⟨w.heap.size, 6, none⟩ = some (.int .i64 n)) (by kernel_rfl) ⟨HK5.out.drew, hc5⟩ (fun hHeld => ?_);refine wpAnyH_take (i := 0) (oi := _) (v := _) rfl (by kernel_rfl) (by kernel_rfl) (by kernel_rfl) (fun _ _ _ h => h) (Dg rfl Tryz.underlying55 (X := #[.string (bstr i), nilS, nilS, nilS, nilS, nilS, .int .i64 n, nilS, nilS]) Ah (fun W h => h.1) (by rfl) _ rfl rfl) hHeld ?_
      (try simp only [Act.put, pk1, pk2, pk3, pk4, pk5, pk6])
      refine wpAnyH_take (i := 1) (oi := _) (v := ?_) rfl (by kernel_rfl) (by kernel_rfl) (by kernel_rfl) (fun _ _ _ h => h) (Or.inl ⟨by rfl, ?_⟩) hHeld ?_;rotate_left
      ·intro wq hSw;have hSw2 := hSw.2;go_simp
       (try with_reducible rfl)
      (try simp only [Act.put, pk1, pk2, pk3, pk4, pk5, pk6])
      refine wpAnyH_take (i := 2) (oi := _) (v := ?_) rfl (by kernel_rfl) (by kernel_rfl) (by kernel_rfl) (fun _ _ _ h => h) (Or.inl ⟨by rfl, ?_⟩) hHeld ?_;rotate_left
      ·intro wq hSw;have hSw2 := hSw.2;go_simp
       (try with_reducible rfl)
      (try simp only [Act.put, pk1, pk2, pk3, pk4, pk5, pk6])
      refine wpAnyH_take (i := 3) (oi := _) (v := undef) rfl (by kernel_rfl) (by kernel_rfl) (by kernel_rfl) (fun _ _ _ h => h) (Or.inr ⟨by rfl, rfl⟩) hHeld ?_
      (try simp only [Act.put, pk1, pk2, pk3, pk4, pk5, pk6])
      refine wpAnyH_take (i := 4) (oi := _) (v := undef) rfl (by kernel_rfl) (by kernel_rfl) (by kernel_rfl) (fun _ _ _ h => h) (Or.inr ⟨by rfl, rfl⟩) hHeld ?_
      (try simp only [Act.put, pk1, pk2, pk3, pk4, pk5, pk6])
      refine wpAnyH_take (i := 5) (oi := _) (v := undef) rfl (by kernel_rfl) (by kernel_rfl) (by kernel_rfl) (fun _ _ _ h => h) (Or.inr ⟨by rfl, rfl⟩) hHeld ?_
      (try simp only [Act.put, pk1, pk2, pk3, pk4, pk5, pk6])
      refine wpAnyH_take (i := 6) (oi := _) (v := ?_) rfl (by kernel_rfl) (by kernel_rfl) (by kernel_rfl) (fun _ _ _ h => h) (Or.inl ⟨by rfl, ?_⟩) hHeld ?_;rotate_left
      ·intro wq hSw;have hSw2 := hSw.2;go_simp
       (try with_reducible rfl)
      (try simp only [Act.put, pk1, pk2, pk3, pk4, pk5, pk6])
      refine wpAnyH_ready (rs := [7]) (by kernel_rfl) (by simp) ?_;refine AllReadyH.cons (o := _) rfl (fun K hK => ?_) AllReadyH.nil;rw [if_pos (by rfl)];refine wp_store_row 55 _ _ rfl (w.heap.size + 1) #[.string (bstr i), nilS, nilS, nilS, nilS, nilS, .int .i64 n, nilS, nilS] rfl rfl 55 zRm HR5.out.drew Ah rfl (by simp [Value.oneCell']) ?_;have hHeld2 : Blk (w5.drew.setRow (w.heap.size + 1) #[.string (bstr i), nilS, nilS, nilS, nilS, nilS, .int .i64 n, nilS, nilS]) w.heap.size 55 #[.string (bstr i), nilS, nilS, nilS, nilS, nilS, .int .i64 n, nilS, nilS] ∧ (w5.drew.setRow (w.heap.size + 1) #[.string (bstr i), nilS, nilS, nilS, nilS, nilS, .int .i64 n, nilS, nilS]).cell? ⟨w.heap.size, 6, none⟩ = some (.int .i64 n) := by
       have h1 : Blk (w5.drew.setRow (w.heap.size + 1) #[.string (bstr i), nilS, nilS, nilS, nilS, nilS, .int .i64 n, nilS, nilS]) w.heap.size 55 #[.string (bstr i), nilS, nilS, nilS, nilS, nilS, .int .i64 n, nilS, nilS] := (setRow_other _ _ _ _ (by omega)).trans HK5.out.drew;exact ⟨h1, h1.cell 6⟩
      refine hK.out _ _ hHeld2 (fun _ => ?_);clear hK K hHeld;have hHeld := hHeld2
      (try simp only [Act.put, pk1, pk2, pk3, pk4, pk5, pk6])
      refine wpAnyH_take (i := 8) (oi := _) (v := ?_) rfl (by kernel_rfl) (by kernel_rfl) (by kernel_rfl) (fun _ _ _ h => h) (Or.inl ⟨by rfl, ?_⟩) hHeld ?_;rotate_left
      ·intro wq hSw;have hSw2 := hSw.2;go_simp
       (try with_reducible rfl)
      (try simp only [Act.put, pk1, pk2, pk3, pk4, pk5, pk6])
      refine wpAnyH_done (by kernel_rfl) ?_ _;refine NoPanic.normal ?_;have HKZ := hid (setRow_heap w5.drew (w.heap.size + 1) zRm #[.string (bstr i), nilS, nilS, nilS, nilS, nilS, .int .i64 n, nilS, nilS] 55 (0, 0) HR5.out.drew);have HBZ := hid (below_setRow (g := w.heap.size + 1) (HB5.out.drew) (Nat.le_succ _) #[.string (bstr i), nilS, nilS, nilS, nilS, nilS, .int .i64 n, nilS, nilS]);go_wp2_with fail;refine bodyPost_ret (Ac rfl _ _ (w.heap.size + 1) _ #[.string (bstr i), nilS, nilS, nilS, nilS, nilS, .int .i64 n, nilS, nilS] _ rfl HKZ.out Tryz.underlying55 rfl Ah) rfl ?_;exact ⟨.inr ⟨HX.out, _, rfl, rfl, by simp [Value.oneCell']⟩, HBZ.out⟩
    ·have HX : Hid (Ar.xhead s = none) := hid (by rw [HXH2.out, hu]; rfl);clear hu
     go_wp2_with (first
      | (refine wpList_load_row rfl 55 _ rfl w.heap.size rfl 55 #[.string (bstr i), nilS, nilS, nilS, nilS, nilS, .int .i64 0, nilS, nilS] (0, 0) _ HK3.out Tryz.underlying55 rfl Ah ?_)
      | ((with_reducible refine Aa rfl 55 _ _ rfl (w.heap.size + 1) #[.string (bstr i), nilS, nilS, nilS, nilS, nilS, .int .i64 0, nilS, nilS] ?_ ?_ 55 zRm HR3.out ?_ rfl (by simp [Value.oneCell']) ?_); rfl; rfl; exact Ah; intro wz hkz hsz hblz hotz))
     refine bodyPost_ret (Ac rfl _ _ (w.heap.size + 1) _ #[.string (bstr i), nilS, nilS, nilS, nilS, nilS, .int .i64 0, nilS, nilS] _ rfl hkz Tryz.underlying55 rfl Ah) rfl ?_;exact ⟨.inr ⟨HX.out, _, rfl, rfl, by simp [Value.oneCell']⟩, HB3.out.trans (hblz _ (Nat.le_succ _))⟩
  ·have HX : Hid (Ar.xhead s = none) := hid (by rw [HXH.out, hiv]; rfl);have HK3 := hid (HK2.out.set_ 0 (.string ⟨#[]⟩));rw [show (zRm : Array Value).setIfInBounds 0 (.string ⟨#[]⟩) = zRm from rfl] at HK3;have HR3 := hid (HR2.out.far (p := ⟨w.heap.size, 0, none⟩) (by show w.heap.size + 1 ≠ w.heap.size; omega) (.string ⟨#[]⟩));have HB3 := hid (HB2.out.setCell (p := ⟨w.heap.size, 0, none⟩) (Nat.le_refl _) (.string ⟨#[]⟩));generalize hw3 : w2.setCell ⟨w.heap.size, 0, none⟩ (.string ⟨#[]⟩) = w3 at *;clear hiv
   go_wp2_with (first
    | (refine wpList_load_row rfl 55 _ rfl w.heap.size rfl 55 zRm (0, 0) _ HK3.out Tryz.underlying55 rfl Ah ?_)
    | ((with_reducible refine Aa rfl 55 _ _ rfl (w.heap.size + 1) zRm ?_ ?_ 55 zRm HR3.out ?_ rfl (by simp [Value.oneCell']) ?_); rfl; rfl; exact Ah; intro wz hkz hsz hblz hotz))
   refine bodyPost_ret (Ac rfl _ _ (w.heap.size + 1) _ zRm _ rfl hkz Tryz.underlying55 rfl Ah) rfl ?_;exact ⟨.inr ⟨HX.out, _, rfl, rfl, by simp [Value.oneCell']⟩, HB3.out.trans (hblz _ (Nat.le_succ _))⟩
 ·have HX : Hid (Ar.xhead s = none) := hid (by unfold Ar.xhead; rw [ht]; rfl);clear ht
  go_wp2_with (first
   | (refine wpList_load_row rfl 55 _ rfl w.heap.size rfl 55 zRm (0, 0) _ HK0.out Tryz.underlying55 rfl Ah ?_)
   | ((with_reducible refine Aa rfl 55 _ _ rfl (w.heap.size + 1) zRm ?_ ?_ 55 zRm HR0.out ?_ rfl (by simp [Value.oneCell']) ?_); rfl; rfl; exact Ah; intro wz hkz hsz hblz hotz))
  refine bodyPost_ret (Ac rfl _ _ (w.heap.size + 1) _ zRm _ rfl hkz Tryz.underlying55 rfl Ah) rfl ?_;exact ⟨.inr ⟨HX.out, _, rfl, rfl, by simp [Value.oneCell']⟩, HB0.out.trans (hblz _ (Nat.le_succ _))⟩
theorem Ij {k : Nat} {p : List UInt8} {ws : List (List UInt8)} {s t : List UInt8} (h : Ar.xpre p s = some t) (hb : Ar.Fh t = true) : Ar.Cz k (p :: ws) s = (k, t) := by
 unfold Ar.xpre at h;split at h
 ·rename_i hp;injection h with h;unfold Ar.Cz;rw [h, hp, hb];rfl
 ·cases h
theorem G0 {k : Nat} {p : List UInt8} {ws : List (List UInt8)} {s : List UInt8} (h : Ar.xpre p s = none ∨ ∃ t, Ar.xpre p s = some t ∧ Ar.Fh t = false) : Ar.Cz k (p :: ws) s = Ar.Cz (k + 1) ws s := by
 rcases h with h | ⟨t, h, hb⟩
 ·unfold Ar.xpre at h;split at h
  ·cases h
  ·rename_i hp;rw [Ar.Cz, if_neg (by simp [hp])]
 ·unfold Ar.xpre at h;split at h
  ·injection h with h;rw [Ar.Cz, h, hb, if_neg (by simp)]
  ·cases h
theorem N8 (s : List UInt8) (w : World) (hs : s.length ≤ 100000) : Calls Tryz.prog 84 #[.string (bstr s)] w fun r w' => r = .returned (.tuple #[.int .i64 ((Ar.xform s).1 : Int), .string (bstr (Ar.xform s).2)]) ∧ Below w.heap.size w w' := by
 have HB0 := hid ((Below.refl w.heap.size w).alloc (Nat.le_refl _) (.cells (strL Ar.formW).toArray 9));have HR0 := hid (Rd.litS w Ar.formW);generalize hSB : bstr s = S at *;go_enter Tryz.func84, Tryz.ntmps84;go_wp2_with fail
 go_loopw [5] (fun ix wr => ∃ k q : Nat, k ≤ 7 ∧ ix = .int .i64 k ∧ wr = (w.alloc (.cells (strL Ar.formW).toArray 9)).drewN q ∧ Hid (Ar.xform s = Ar.Cz (k + 2) (Ar.formW.drop k) s)) (fun ix _ => 7 - (RowKit.intOf ix).toNat)
 case atStart => exact ⟨0, 0, by omega, rfl, rfl, hid rfl⟩
 case round =>
  obtain ⟨k, q, hk, rfl, rfl, hf⟩ := hrel;have HF : Hid (Ar.xform s = Ar.Cz (k + 2) (Ar.formW.drop k) s) := hf;clear hf;by_cases hlt : k < 7
  ·obtain ⟨b1, o1, x1, e1, hxk, hc⟩ := HR0.out.str_at (k := k) hlt;injection e1 with e1;injection e1 with e1 e2 e3;subst e1 e2;rw [Nat.zero_add] at hc;have HDR : Hid (Ar.formW.drop k = x1 :: Ar.formW.drop (k + 1)) := hid (by obtain ⟨h1, h2⟩ := List.getElem?_eq_some_iff.1 hxk; rw [← h2]; exact List.drop_eq_getElem_cons h1);have hxl : x1.length ≤ 100 := by
    have : ∀ x ∈ Ar.formW, x.length ≤ 100 := by decide
    exact this x1 (List.mem_of_getElem? hxk)
   have HP := hid (fun W => IQ s x1 W (by omega) (by omega));rw [hSB] at HP;clear hxk;generalize bstr x1 = X1 at *;go_wp2_with fail;refine (HP.out _).mono ?_;rintro r w2 ⟨hpr, hw2⟩;subst hw2;rcases hpr with ⟨t, ht, rfl⟩ | ⟨ht, rfl⟩
   ·cases t with
    | nil =>
     have HX : Hid (Ar.xform s = (k + 2, [])) := hid (by rw [HF.out, HDR.out]; exact Ij ht rfl);have he := emp_t (t := []) rfl;clear ht;generalize hT : bstr [] = T at *;go_wp2_with fail
     go_ret2
     exact ⟨by rw [HX.out, ← hT]; rfl, below_drewN HB0.out q⟩
    | cons c t =>
     have he := emp_f (t := c :: t) (by simp);have hz : (bstr (c :: t)).size = t.length + 1 := by rw [Ab]; rfl
     have hat : (bstr (c :: t))[0]'(by rw [hz]; omega) = c := rfl;have HBL : Hid (Ar.Fh (c :: t) = (c == 32)) := hid rfl;by_cases hc32 : c = 32
     ·have HX : Hid (Ar.xform s = (k + 2, c :: t)) := hid (by rw [HF.out, HDR.out]; exact Ij ht (by rw [hc32]; rfl));have hd : ((c.toNat : Int) == 32) = true := by rw [hc32]; rfl
      clear ht hc32;generalize hT : bstr (c :: t) = T at *;have hp0 : 0 < T.size := by omega
      go_wp2_with fail
      go_ret2
      exact ⟨by rw [HX.out]; show _ = Ending.returned (.tuple #[_, .string (bstr (c :: t))]); rw [hT]; rfl, below_drewN HB0.out q⟩
     ·have HX : Hid (Ar.xform s = Ar.Cz (k + 1 + 2) (Ar.formW.drop (k + 1)) s) := hid (by rw [HF.out, HDR.out]; exact G0 (.inr ⟨_, ht, beq_eq_false_iff_ne.2 hc32⟩));have hd : ((c.toNat : Int) == 32) = false := by
       rw [beq_eq_false_iff_ne];intro e;exact hc32 (UInt8.toNat_inj.1 (by show c.toNat = 32; omega))
      clear ht hc32;generalize bstr (c :: t) = T at *;have hp0 : 0 < T.size := by omega
      go_wp2_with fail
      go_roundw
      case rel => exact ⟨k + 1, q, by omega, by go_num, rfl, HX⟩
      case measure => simp [RowKit.intOf]; omega
   ·have HX : Hid (Ar.xform s = Ar.Cz (k + 1 + 2) (Ar.formW.drop (k + 1)) s) := hid (by rw [HF.out, HDR.out]; exact G0 (.inl ht));clear ht;go_wp2_with fail
    go_roundw
    case rel => exact ⟨k + 1, q, by omega, by go_num, rfl, HX⟩
    case measure => simp [RowKit.intOf]; omega
  ·obtain rfl : k = 7 := by omega
   have HX : Hid (Ar.xform s = (0, [])) := hid (by rw [HF.out]; rfl);go_wp2_with fail
   go_ret2
   exact ⟨by rw [HX.out]; rfl, below_drewN HB0.out q⟩
end Go.Proofs.YteadlcncnhbmjaaGreatDoor
