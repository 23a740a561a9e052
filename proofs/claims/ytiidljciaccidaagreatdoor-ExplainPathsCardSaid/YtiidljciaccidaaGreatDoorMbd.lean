/- The texts Oh, Oi, Oj of this proof, one behind the other. -/
import Derived.BigQuiet
import Derived.Test.YtiidljciaccidaaGreatDoorMbc
set_option linter.unusedSimpArgs false
set_option maxHeartbeats 16000000
set_option maxRecDepth 100000
set_option linter.unusedVariables false
/- The text Oh. -/
namespace Go.Proofs.YtiidljciaccidaaGreatDoor
open Go.RowKit Go.Lib
set_option linter.unusedVariables false
set_option linter.unusedSimpArgs false
def SetS : Shp (List Int) where
 sz := 1
 V := fun ok w X L => ∃ c, X = [c] ∧ SlcOf ok w c L.length 1 (intL L)
 pos := by decide
 len := fun h => by obtain ⟨c, rfl, _⟩ := h; rfl
 one := fun h u hu => by
  obtain ⟨c, rfl, A, cap, rfl, _⟩ := h
  rw [List.mem_singleton.1 hu]
  rfl
 keep := fun h hk => by
  obtain ⟨c, e, h1⟩ := h
  exact ⟨c, e, h1.keep (by decide) hk⟩
abbrev SetO (ok : Nat → Prop) (w : World) (base : Nat) (v : Value) (Ls : List (List Int)) : Prop := SetS.Own 24 ok w base v Ls
theorem info_is : (Tryz.prog.info? 24).map (fun i => (i.zero, i.size, i.bytes)) = some (some (.slice none 0 0), 1, 24) := by kernel_rfl
theorem rowSet : RowU 66 24 1 24 := ⟨Tryz.underlying66, ⟨_, info_is, rfl⟩, by decide, by decide⟩
section
variable {w w' : World} {base B n : Nat} {v c : Value} {L M : List Int} {Ls : List (List Int)} {ops : Array Oper} {rest : List Oper} {o : Oper} {a : Act} {Q : Exit → Act → World → Prop} {A : Option Addr} {cap : Nat} {ok : Nat → Prop}
theorem app_own (hgd : o.guard = none) (s x : Operand) (ho : o.op = .call { callee := .builtin .append, args := #[s, x], argTypes := #[24, 24] })
  (wr : World) (y : Int) (hs : a.eval s = v) (hown : OI wr base v L) (hx : a.eval x = .slice (some ⟨wr.heap.size, 0, none⟩) 1 1) (hbase : base ≤ wr.heap.size) (hlen : L.length ≤ 100000000)
  (h : ∀ v' w', OI w' base v' (L ++ [y]) → (∀ w0, Below base w0 wr → Below base w0 w') → (∀ g t cs, Blk wr g t cs → some g ≠ v.ownBlock → Blk w' g t cs ∧ some g ≠ v'.ownBlock) → wpList Tryz.prog ops Q rest (a.put o.dst v') w') :
  wpList Tryz.prog ops Q (o :: rest) a (wr.alloc (.cells #[.int .i64 y] 3)) := by
 have hba := (Below.refl wr.heap.size wr).alloc (Nat.le_refl _) (.cells #[.int .i64 y] 3)
 have hsz : (wr.alloc (.cells #[.int .i64 y] 3)).heap.size = wr.heap.size + 1 := by simp
 refine app_row rowIntU hgd s x ho (wr.alloc (.cells #[.int .i64 y] 3)) v L.length (intL L) [.int .i64 y] base hs (own_bel hown hba) (some ⟨wr.heap.size, 0, none⟩) 1 1 hx ⟨rfl, fun j u hj => ⟨wr.heap.size, 0, rfl, by rw [Nat.zero_add, (Blk.new wr 3 #[.int .i64 y]).cell j, List.getElem?_toArray]; exact hj⟩⟩ (fun u hu => by rw [List.mem_singleton.1 hu]; rfl) (by omega) (by omega) (fun v' w' h1 h2 h3 h4 => ?_)
 refine h v' w' (by show w'.ownsRow base 3 1 v' (L ++ [y]).length (intL (L ++ [y])); rw [List.length_append, intL_app]; exact h1) (fun w0 hb => h3 w0 (hb.alloc hbase _)) (fun g t cs hg hne => ⟨Blk.grown (hg.alloc _) h2 hne, ?_⟩)
 rcases h4 with h4 | h4
 ·rw [h4]; exact hne
 ·rw [h4, hsz]
  have := hg.lt
  intro e
  injection e with e
  omega
theorem SetO.lit (w : World) (x : Int) : SetO (fun b => w.heap.size ≤ b) ((w.alloc (.cells #[.int .i64 x] 3)).alloc (.cells #[.slice (some ⟨w.heap.size, 0, none⟩) 1 1] 24)) w.heap.size (.slice (some ⟨w.heap.size + 1, 0, none⟩) 1 1) [[x]] := by
 have hsz : (w.alloc (.cells #[.int .i64 x] 3)).heap.size = w.heap.size + 1 := by simp
 have hB := Blk.new (w.alloc (.cells #[.int .i64 x] 3)) 24 #[.slice (some ⟨w.heap.size, 0, none⟩) 1 1]
 rw [hsz] at hB
 refine ⟨[.slice (some ⟨w.heap.size, 0, none⟩) 1 1], ⟨rfl, .inr ⟨w.heap.size + 1, 1, #[.slice (some ⟨w.heap.size, 0, none⟩) 1 1], rfl, by omega, hB, Nat.le_refl _, by decide, rfl, rfl⟩⟩, Shp.Cells.one (S := SetS) ⟨_, rfl, some ⟨w.heap.size, 0, none⟩, 1, rfl, ⟨rfl, fun j u hj => ⟨w.heap.size, 0, rfl, ?_⟩⟩, fun _ ad e => ?_⟩⟩
 ·rw [Nat.zero_add, ((Blk.new w 3 #[.int .i64 x]).alloc _).cell j, List.getElem?_toArray]
  exact hj
 ·injection e with e
  subst e
  refine ⟨Nat.le_refl _, fun e => ?_⟩
  simp [Value.ownBlock] at e
theorem SetO.at_ (h : SetO ok w base v Ls) {i : Nat} (hi : Ls[i]? = some L) : ∃ g off n cap A c, v = .slice (some ⟨g, off, none⟩) n cap ∧ n = Ls.length ∧ w.cell? ⟨g, off + i, none⟩ = some (.slice A L.length c) ∧ Rd w A L.length (intL L) := by
 obtain ⟨A, cap, rfl, _, hr⟩ := Shp.Own.row (S := SetS) (ok' := fun _ => True) h (fun _ _ => trivial) (fun _ _ => trivial)
 obtain ⟨b, off, X, rfl, _, h3, h4⟩ := hr i L hi
 obtain ⟨c, rfl, A', cap', rfl, h6, _⟩ := h4
 refine ⟨b, off, _, cap, A', cap', rfl, rfl, ?_, by rw [Nat.mul_one] at h6; exact h6⟩
 have := h3 0 _ rfl
 rw [show off + i * SetS.sz + 0 = off + i by show off + i * 1 + 0 = off + i; omega] at this
 exact this
theorem SetO.get {g off n cap i : Nat} (h : SetO ok w base (.slice (some ⟨g, off, none⟩) n cap) Ls) (hi : Ls[i]? = some L) : ∃ A c, w.cell? ⟨g, off + i, none⟩ = some (.slice A L.length c) ∧ Rd w A L.length (intL L) := by
 obtain ⟨g', off', n', cap', A, c, e, _, h1, h2⟩ := SetO.at_ h hi
 injection e with e1 e2 e3
 injection e1 with e1
 injection e1 with e4 e5 e6
 subst e4 e5
 exact ⟨A, c, h1, h2⟩
theorem app_set (hgd : o.guard = none) (s x : Operand) (ho : o.op = .call { callee := .builtin .append, args := #[s, x], argTypes := #[66, 66] })
  (wr : World) (B : Nat) (hs : a.eval s = v) (hown : SetO (fun b => base ≤ b) wr base v Ls) (hv : ∀ k, v.ownBlock = some k → k < B) (hset : OI wr B c L) (hBb : base ≤ B) (hx : a.eval x = .slice (some ⟨wr.heap.size, 0, none⟩) 1 1) (hbase : base ≤ wr.heap.size) (hlen : Ls.length ≤ 100000000)
  (h : ∀ v' w', SetO (fun b => base ≤ b) w' base v' (Ls ++ [L]) → (∀ w0, Below base w0 wr → Below base w0 w') → wpList Tryz.prog ops Q rest (a.put o.dst v') w') :
  wpList Tryz.prog ops Q (o :: rest) a (wr.alloc (.cells #[c] 24)) := by
 have hba := (Below.refl wr.heap.size wr).alloc (Nat.le_refl _) (.cells #[c] 24)
 obtain ⟨xs, h0, hcs⟩ := Shp.Own.bel (S := SetS) hown hba
 have hone : c.oneCell' = true := by obtain ⟨A, cap, rfl, _⟩ := hset.at_; rfl
 have hM : SetS.Cells (fun b => base ≤ b ∧ some b ≠ v.ownBlock) (wr.alloc (.cells #[c] 24)) [c] [L] := Shp.Cells.one (S := SetS) ⟨c, rfl, (SlcOf.of_own (own_bel hset hba)).keep (by decide) fun b hb _ => ⟨⟨by omega, fun e => by have := hv b e.symm; omega⟩, rfl⟩⟩
 refine app_row rowSet hgd s x ho (wr.alloc (.cells #[c] 24)) v Ls.length xs [c] base hs h0 (some ⟨wr.heap.size, 0, none⟩) 1 1 hx ⟨rfl, fun j u hj => ⟨wr.heap.size, 0, rfl, by rw [Nat.zero_add, (Blk.new wr 24 #[c]).cell j, List.getElem?_toArray]; exact hj⟩⟩ (fun u hu => by rw [List.mem_singleton.1 hu]; exact hone) (by simp; omega) (by omega) (fun v' w' h1 h2 h3 h4 => ?_)
 exact h v' w' (Shp.Own.app (S := SetS) h0 hcs hM h1 h2 h4) (fun w0 hb => h3 w0 (hb.alloc hbase _))
theorem Rd.low {vs : List Value} (h : Rd w A n vs) (hA : 0 < n → ∀ ad, A = some ad → ad.block < B) (hb : Below B w w') : Rd w' A n vs := by
 refine ⟨h.1, fun j u hj => ?_⟩
 obtain ⟨g, o, e, hc⟩ := h.2 j u hj
 have hn : 0 < n := by have := (List.getElem?_eq_some_iff.1 hj).1; have := h.1; omega
 exact ⟨g, o, e, (hb.cell (p := ⟨g, o + j, none⟩) (by have := hA hn ⟨g, o, none⟩ e; exact this)).trans hc⟩
end
theorem Rd.low2 {w5 w w' : World} {A : Option Addr} {n B : Nat} {vs : List Value} (h : Rd w5 A n vs) (hA : 0 < n → ∀ ad, A = some ad → ad.block < B) (hb : Below B w w5) (hb2 : Below B w w') : Rd w' A n vs := by
 refine ⟨h.1, fun j u hj => ?_⟩
 obtain ⟨g, o, e, hc⟩ := h.2 j u hj
 have hn : 0 < n := by have := (List.getElem?_eq_some_iff.1 hj).1; have := h.1; omega
 have hlt : g < B := hA hn ⟨g, o, none⟩ e
 exact ⟨g, o, e, (hb2.cell (p := ⟨g, o + j, none⟩) hlt).trans ((hb.cell (p := ⟨g, o + j, none⟩) hlt).symm.trans hc)⟩
theorem evrow_low {ok : Nat → Prop} {w : World} {A : Option Addr} {l : List Co.Ev} (h : EvRow ok w A l) : EvRow (fun b => b < w.heap.size) w A l := Shp.Row.keep (S := EvS) h fun b _ hlt => ⟨hlt, rfl⟩
def PathR (base : Nat) (o : Option (List Int)) (e : Ending) (w' : World) : Prop := match o with
 | none => e = .returned (.tuple #[.slice none 0 0, .bool false])
 | some L => ∃ v, e = .returned (.tuple #[v, .bool true]) ∧ OI w' base v L
theorem PathR.no {base : Nat} {o : Option (List Int)} {w' : World} (h : o = none) : PathR base o (.returned (.tuple #[.slice none 0 0, .bool false])) w' := by subst h; exact rfl
theorem PathR.yes {base : Nat} {o : Option (List Int)} {L : List Int} {v : Value} {w' : World} (h : o = some L) (hv : OI w' base v L) : PathR base o (.returned (.tuple #[v, .bool true])) w' := by subst h; exact ⟨v, rfl, hv⟩
theorem place_two (x : Int) (L : List Int) : ∃ p : Int, ixF (isI x) 0 L = p ∧ ((p = -1 ∧ L.contains x = false) ∨ (∃ i : Nat, p = (i : Int) ∧ L.contains x = true)) := by
 rcases ix_has x L with ⟨h1, h2⟩ | ⟨i, h1, h2⟩
 ·exact ⟨-1, h1, .inl ⟨rfl, h2⟩⟩
 ·exact ⟨i, h1, .inr ⟨i, rfl, h2⟩⟩
theorem downR_step {l : List Co.Ev} {b : Int} {n : Nat} {x : Int} {AU : List Int} {o : Option Int} (ha : AU = Co.authOf l x) (h : Lst (fun a => (Co.setR l b n).contains a) (AU.take AU.length) o) : Co.downR l b (n + 1) x = o.getD 0 :: Co.downR l b n (o.getD 0) := by
 rw [List.take_length] at h
 have := lst_least h
 rw [ha] at this
 show (Co.least _ _).getD 0 :: _ = _
 rw [this]
end Go.Proofs.YtiidljciaccidaaGreatDoor
/- The text Oi. -/
namespace Go.Proofs.YtiidljciaccidaaGreatDoor
open Go.RowKit Go.Lib
set_option linter.unusedVariables false
set_option linter.unusedSimpArgs false
theorem rpath_any (ok : Nat → Prop) (l : List Co.Ev) (A : Option Addr) (cap : Nat) (a b : Int) (n : Nat) (w : World) (h : EvRow ok w A l) (hl : l.length ≤ 10000) (hn : n ≤ 10000) (hW : ∀ e ∈ l, e.auth.length ≤ 1000000) :
  Calls Tryz.prog 14 #[.slice A l.length cap, .int .i64 a, .int .i64 b, .int .i64 (n : Int)] w fun e w' => PathR w.heap.size (Co.pathR l a b n) e w' ∧ Below w.heap.size w w' := by
 have HROW := hid (evrow_low h)
 have HW := hid hW
 have HGET := hid (fun (id : Int) (W : World) (hr : EvRow (fun b => b < w.heap.size) W A l) => rget_any (fun b => b < w.heap.size) l A cap id W hr (by omega))
 obtain ⟨R, hR⟩ : ∃ R, R = Co.pathR l a b n := ⟨_, rfl⟩
 have HR := hid hR
 rw [← hR]
 clear h hW hR
 have HS0 := hid (SetO.lit w b)
 have HB0 := hid (((Below.refl w.heap.size w).alloc (Nat.le_refl _) (.cells #[.int .i64 b] 3)).alloc (by simp) (.cells #[.slice (some ⟨w.heap.size, 0, none⟩) 1 1] 24))
 go_enter Tryz.func14, Tryz.ntmps14
 go_wp2_with fail
 go_loopw [10, 11] (fun sx ix wr => ∃ i : Nat, i ≤ n ∧ ix = .int .i64 (i : Int) ∧ SetO (fun b => w.heap.size ≤ b) wr w.heap.size sx (Co.setsR l b i) ∧ Below w.heap.size w wr) (fun _ ix _ => n - (RowKit.intOf ix).toNat)
 case atStart => exact ⟨0, Nat.zero_le _, rfl, HS0.out, HB0.out⟩
 case round =>
  obtain ⟨i, hi, rfl, hso, hb⟩ := hrel
  have HSO := hid hso
  have HB := hid hb
  clear hso hb
  obtain ⟨w2, hw2⟩ : ∃ x, x = wr := ⟨_, rfl⟩
  subst hw2
  obtain ⟨sv, hsv⟩ : ∃ x, x = u10 := ⟨_, rfl⟩
  subst hsv
  by_cases hlt : i < n
  ·obtain ⟨gs, os, ns, cs, Aps, cps, rfl, hns, hcs, hrs⟩ := SetO.at_ HSO.out (Co.setsR_at (l := l) (b := b) (Nat.le_refl i))
   rw [Co.setsR_len] at hns
   subst hns
   have HCS := hid hcs
   have HRS := hid hrs
   clear hcs hrs
   have HPLN := hid (Co.setR_len l b i)
   have HNXT := hid (fun S => Co.setR_next (l := l) (b := b) (n := i) (S := S))
   generalize Co.setR l b i = PR at *
   have hci : i + 1 ≤ n := hlt
   go_wp2_with fail
   go_loopw [12, 13] (fun tx kx wr => ∃ (k : Nat) (T : List Int), k ≤ l.length ∧ kx = .int .i64 (k : Int) ∧ Hid (T = Co.stepR l PR (l.take k) []) ∧ OI wr w2.heap.size tx T ∧ Below w2.heap.size w2 wr) (fun _ kx _ => l.length - (RowKit.intOf kx).toNat)
   case atStart => exact ⟨0, [], Nat.zero_le _, rfl, hid rfl, own_nil .., Below.refl _ _⟩
   case round =>
    obtain ⟨k, T, hk, rfl, HT, hto, hb⟩ := hrel
    have HTO := hid hto
    have HB3 := hid hb
    clear hto hb
    obtain ⟨w3, hw3⟩ : ∃ x, x = wr := ⟨_, rfl⟩
    subst hw3
    obtain ⟨tv, htv⟩ : ∃ x, x = u12 := ⟨_, rfl⟩
    subst htv
    have HBW3 := hid (HB.out.trans (HB3.out.mono HB.out.size))
    have HTLN : Hid (T.length ≤ 10000) := hid (by rw [HT.out]; have := Co.stepR_len (l := l) (prev := PR) (l.take k) []; rw [List.length_take, List.length_nil] at this; omega)
    by_cases hlk : k < l.length
    ·obtain ⟨x, bx, off, X, hx, rfl, _, hbl, hr, hv⟩ := (HROW.out.bel HBW3.out).at_ hlk
     have hc : w3.cell? ⟨bx, off + k * 29, none⟩ = some (.int .i64 x.id) := by have := hr 0 _ hv.c0; rwa [Nat.add_zero] at this
     obtain ⟨y, hy, _, hyid, hya⟩ := get_own hx
     have HX := hid hx
     have hck : k + 1 ≤ l.length := hlk
     have HID : Hid (((Co.getE l x.id).getD default).id = x.id) := hid (by rw [hy]; exact hyid)
     have HAU := hid (auth_is l x.id)
     have HNS : Hid (∀ Q, Q = Co.addR PR T x.id (((Co.getE l x.id).getD default).auth.take ((Co.getE l x.id).getD default).auth.length) → Q = Co.stepR l PR (l.take (k + 1)) []) := hid (fun Q hQ => by rw [hQ, HT.out]; exact (Co.stepR_step hx (auth_is l x.id)).symm)
     have hall : ((Co.getE l x.id).getD default).auth.length ≤ 1000000 := auth_all (P := fun L => L.length ≤ 1000000) (by decide) HW.out x.id
     clear hx hr hv hy hyid hya
     generalize x.id = xi at *
     go_wp2_with fail
     refine (HGET.out xi w3 (HROW.out.bel HBW3.out)).mono ?_
     rintro e w4 ⟨⟨V, rfl, hv⟩, hb4⟩
     have hvl := hv.len
     rw [Array.length_toList] at hvl
     have HSX : Hid ((Tryz.prog.info? 41).map (·.size) = some V.size) := hid (by rw [size_ev, hvl])
     have HSZ : Hid (zEv.size = V.size) := hid hvl.symm
     have HOV : Hid (V.all (·.oneCell') = true) := hid (by have := EvS.all hv; rwa [Array.toArray_toList] at this)
     obtain ⟨cp, ca, _, _, _, _, hX, hL⟩ := hv
     obtain ⟨Ap, capp, rfl, hrp, -⟩ := hL.prev
     obtain ⟨Aa, capa, rfl, hra, hlo⟩ := hL.auth
     have HLO := hid hlo
     clear hlo
     have HC8 : Hid (V[8]? = some (.slice Ap ((Co.getE l xi).getD default).prev.length capp)) := hid (by rw [← Array.getElem?_toList, hX]; rfl)
     have HC9 : Hid (V[9]? = some (.slice Aa ((Co.getE l xi).getD default).auth.length capa)) := hid (by rw [← Array.getElem?_toList, hX]; rfl)
     have HC0 : Hid (V[0]? = some (.int .i64 ((Co.getE l xi).getD default).id)) := hid (by rw [← Array.getElem?_toList, hX]; rfl)
     have hra2 : Rd w4 Aa ((Co.getE l xi).getD default).auth.length (intL ((Co.getE l xi).getD default).auth) := by have := hra; rw [Nat.mul_one] at this; exact this
     have HNEW := hid (Blk.new w4 41 zEv)
     have hb5 := below_setRow (g := w4.heap.size) ((Below.refl w4.heap.size w4).alloc (Nat.le_refl _) (.cells zEv 41)) (Nat.le_refl _) V
     have HK5 : Hid (Blk ((w4.alloc (.cells zEv 41)).setRow w4.heap.size V) w4.heap.size 41 V) := hid (setRow_heap _ _ _ _ _ _ HNEW.out)
     have HB45 := hid (hb4.trans (hb5.mono hb4.size))
     have HSMM := hid hb4.size
     have HB5 := hid (HBW3.out.trans (HB45.out.mono HBW3.out.size))
     have HN54 := hid HK5.out.lt
     have HRA := hid (hra2.below hb5)
     clear hX hL hra hra2 hrp
     clear HC8
     clear hb4 hb5 hvl
     generalize hw5 : (w4.alloc (.cells zEv 41)).setRow w4.heap.size V = w5 at *
     have HK5' := HK5
     rw [HID.out] at HC0
     generalize ((Co.getE l xi).getD default).auth = AU at *
     generalize ((Co.getE l xi).getD default).prev = PV at *
     generalize (Co.getE l xi).isSome = sb at *
     have HB25 := hid (HB3.out.trans (HB45.out.mono HB3.out.size))
     have HTO5 := hid (own_bel HTO.out HB45.out)
     have HNE5 : Hid (some w4.heap.size ≠ tv.ownBlock) := hid (fun e => by have h1 := (HTO.out.lt _ e.symm).2; have h2 := HSMM.out; omega)
     go_wp2_with ((with_reducible refine store_rowe rfl 41 _ _ rfl w4.heap.size V ?_ ?_ 41 zEv HNEW.out HSX.out HSZ.out HOV.out ?_); rfl; rfl; rw [hw5])
     go_loopw [12, 16] (fun tx jx wr => ∃ (j : Nat) (T2 : List Int), j ≤ AU.length ∧ jx = .int .i64 (j : Int) ∧ Hid (T2 = Co.addR PR T xi (AU.take j)) ∧ OI wr w2.heap.size tx T2 ∧ some w4.heap.size ≠ tx.ownBlock ∧ Blk wr w4.heap.size 41 V ∧ Below w2.heap.size w2 wr) (fun _ jx _ => AU.length - (RowKit.intOf jx).toNat)
     case atStart => exact ⟨0, T, Nat.zero_le _, rfl, hid (Co.addR_nil ..).symm, HTO5.out, HNE5.out, HK5.out, HB25.out⟩
     case round =>
      obtain ⟨j, T2, hj, rfl, HT2, hto, hne, hbk, hb⟩ := hrel
      have HTO6 := hid hto
      have HNE6 := hid hne
      have HBK6 := hid hbk
      have HB6 := hid hb
      clear hto hne hbk hb
      obtain ⟨w6, hw6⟩ : ∃ x, x = wr := ⟨_, rfl⟩
      subst hw6
      obtain ⟨t2, ht2⟩ : ∃ x, x = u12 := ⟨_, rfl⟩
      subst ht2
      have HBW6 := hid (HB.out.trans (HB6.out.mono HB.out.size))
      have HTLN2 : Hid (T2.length ≤ 10001) := hid (by rw [HT2.out]; have := Co.addR_len PR T xi (AU.take j); have := HTLN.out; omega)
      have hc9 : w6.cell? ⟨w4.heap.size, 9, none⟩ = some (.slice Aa AU.length capa) := (HBK6.out.cell 9).trans HC9.out
      have hc0 : w6.cell? ⟨w4.heap.size, 0, none⟩ = some (.int .i64 xi) := (HBK6.out.cell 0).trans HC0.out
      by_cases hlj : j < AU.length
      ·obtain ⟨z, hz⟩ : ∃ z, AU[j]? = some z := ⟨_, List.getElem?_eq_getElem hlj⟩
       obtain ⟨ga, oa, rfl, hcz⟩ := (Rd.low2 HRA.out HLO.out HB5.out HBW6.out).2 j _ (intL_at hz)
       have HZ := hid hz
       have hcj : j + 1 ≤ AU.length := hlj
       have hcs6 : w6.cell? ⟨gs, os + i, none⟩ = some (.slice Aps PR.length cps) := (Below.cell HB6.out (p := ⟨gs, os + i, none⟩) (block_lt HCS.out)).trans HCS.out
       clear hz
       obtain ⟨p1, hp1, hq1⟩ := place_two z PR
       have HP1 : Hid (∀ m, Calls Tryz.prog 15 #[.slice Aps PR.length cps, .int .i64 z] (w6.drewN m) fun e w' => e = .returned (.int .i64 p1) ∧ w' = w6.drewN m) := hid (fun m => by rw [← hp1]; exact rplace_any PR Aps cps z (w6.drewN m) ((HRS.out.below HB6.out).drewN m) (by have := HPLN.out; omega))
       clear hp1
       rcases hq1 with ⟨rfl, hz1⟩ | ⟨i1, rfl, hz1⟩
       ·have HT3 : Hid (T2 = Co.addR PR T xi (AU.take (j + 1))) := hid (by rw [Co.addR_no HZ.out (.inl hz1)]; exact HT2.out)
        clear hz1
        go_wp2_with fail
        go_quiet ((go_at_call_of 15 (Value.int .i64 z); exact Calls.quiet_of_same (HP1.out _)))
        go_wp2_with fail
        go_roundw
        case rel => exact ⟨j + 1, T2, hcj, by go_num, HT3, HTO6.out, HNE6.out, HBK6.out, below_drewN HB6.out _⟩
        case measure => simp [RowKit.intOf]; omega
       ·obtain ⟨AT, cT, rfl, hcT, hrT⟩ := HTO6.out.at_
        have HRT6 := hid hrT
        clear hcT hrT
        obtain ⟨p2, hp2, hq2⟩ := place_two xi T2
        have HP2 : Hid (∀ m, Calls Tryz.prog 15 #[.slice AT T2.length cT, .int .i64 xi] (w6.drewN m) fun e w' => e = .returned (.int .i64 p2) ∧ w' = w6.drewN m) := hid (fun m => by rw [← hp2]; exact rplace_any T2 AT cT xi (w6.drewN m) (HRT6.out.drewN m) (by have := HTLN2.out; omega))
        clear hp2
        rcases hq2 with ⟨rfl, hz2⟩ | ⟨i2, rfl, hz2⟩
        ·have HT3 : Hid (T2 ++ [xi] = Co.addR PR T xi (AU.take (j + 1))) := hid (by rw [Co.addR_yes HZ.out hz1 (by rw [← HT2.out]; exact hz2), ← HT2.out])
         have HTO7 : Hid (∀ m, OI (w6.drewN m) w2.heap.size (.slice AT T2.length cT) T2) := hid (fun m => HTO6.out)
         have HS7 : Hid (∀ m, w2.heap.size ≤ (w6.drewN m).heap.size) := hid (fun m => HB6.out.size)
         have HTL7 : Hid (T2.length ≤ 100000000) := hid (by have := HTLN2.out; omega)
         clear hz1 hz2
         go_wp2_with fail
         go_quiet ((first | (go_at_call_of 15 (Value.int .i64 z); exact Calls.quiet_of_same (HP1.out _)) | (go_at_call_of 15 (Value.int .i64 xi); exact Calls.quiet_of_same (HP2.out _))))
         go_wp2_with ((with_reducible refine app_own rfl _ _ rfl _ xi ?_ (HTO7.out _) ?_ (HS7.out _) HTL7.out ?_); rfl; rfl; intro v7 w7 ho7 hb7 hk7; have HO7 := hid ho7; have HB7 := hid (hb7 w2 (below_drewN HB6.out _)); have HK7 := hid (hk7 _ _ _ (HBK6.out.drewN _) HNE6.out); clear ho7 hb7 hk7)
         go_roundw
         case rel => exact ⟨j + 1, T2 ++ [xi], hcj, by go_num, HT3, HO7.out, HK7.out.2, HK7.out.1, HB7.out⟩
         case measure => simp [RowKit.intOf]; omega
        ·have HT3 : Hid (T2 = Co.addR PR T xi (AU.take (j + 1))) := hid (by rw [Co.addR_no HZ.out (.inr (by rw [← HT2.out]; exact hz2))]; exact HT2.out)
         clear hz1 hz2
         go_wp2_with fail
         go_quiet ((first | (go_at_call_of 15 (Value.int .i64 z); exact Calls.quiet_of_same (HP1.out _)) | (go_at_call_of 15 (Value.int .i64 xi); exact Calls.quiet_of_same (HP2.out _))))
         go_wp2_with fail
         go_roundw
         case rel => exact ⟨j + 1, T2, hcj, by go_num, HT3, HTO6.out, HNE6.out, HBK6.out, below_drewN HB6.out _⟩
         case measure => simp [RowKit.intOf]; omega
      ·obtain rfl : j = AU.length := by omega
       have HN2 := hid (HNS.out T2 HT2.out)
       go_wp2_with fail
       go_roundw
       case rel => exact ⟨k + 1, T2, hck, by go_num, HN2, HTO6.out, HB6.out⟩
       case measure => simp [RowKit.intOf]; omega
    ·obtain rfl : k = l.length := by omega
     obtain ⟨AT, cT, rfl, hcT, hrT⟩ := HTO.out.at_
     clear hcT hrT
     have HSO3 := hid (Shp.Own.bel (S := SetS) HSO.out HB3.out)
     have HVB := hid (fun k hk => (Shp.Own.lt (S := SetS) HSO.out k hk).2)
     have HS2 := hid HB.out.size
     have HS3 := hid HBW3.out.size
     have HSL : Hid ((Co.setsR l b i).length ≤ 100000000) := hid (by rw [Co.setsR_len]; omega)
     have HSN : Hid (Co.setsR l b (i + 1) = Co.setsR l b i ++ [T]) := hid (by rw [Co.setsR_next, HNXT.out T HT.out.symm])
     go_wp2_with ((with_reducible refine app_set rfl _ _ rfl w3 w2.heap.size ?_ HSO3.out HVB.out HTO.out HS2.out ?_ HS3.out HSL.out ?_); rfl; rfl; intro v4 w4 ho4 hb4; have HO4 := hid ho4; have HB4 := hid (hb4 w HBW3.out); clear ho4 hb4)
     go_roundw
     case rel => exact ⟨i + 1, hci, by go_num, by rw [HSN.out]; exact HO4.out, HB4.out⟩
     case measure => simp [RowKit.intOf]; omega
  ·obtain rfl : i = n := by omega
   obtain ⟨gs, os, ns, cs, Aps, cps, rfl, hns, hcs, hrs⟩ := SetO.at_ HSO.out (Co.setsR_at (l := l) (b := b) (Nat.le_refl i))
   rw [Co.setsR_len] at hns
   subst hns
   have HCS := hid hcs
   have HRS := hid hrs
   have HPLN := hid (Co.setR_len l b i)
   clear hcs hrs
   go_wp2_with fail
   refine (HGET.out b w2 (HROW.out.bel HB.out)).mono ?_
   rintro e w3 ⟨⟨V, rfl, hv⟩, hb3⟩
   have hvl := hv.len
   rw [Array.length_toList] at hvl
   have HSX : Hid ((Tryz.prog.info? 41).map (·.size) = some V.size) := hid (by rw [size_ev, hvl])
   have HSZ : Hid (zEv.size = V.size) := hid hvl.symm
   have HOV : Hid (V.all (·.oneCell') = true) := hid (by have := EvS.all hv; rwa [Array.toArray_toList] at this)
   have HNEW := hid (Blk.new w3 41 zEv)
   have hb4 := below_setRow (g := w3.heap.size) ((Below.refl w3.heap.size w3).alloc (Nat.le_refl _) (.cells zEv 41)) (Nat.le_refl _) V
   have HK4 : Hid (Blk ((w3.alloc (.cells zEv 41)).setRow w3.heap.size V) w3.heap.size 41 V) := hid (setRow_heap _ _ _ _ _ _ HNEW.out)
   have HB34 := hid (hb3.trans (hb4.mono hb3.size))
   have HSMM := hid hb3.size
   have HB4 := hid (HB.out.trans (HB34.out.mono HB.out.size))
   have HN43 := hid HK4.out.lt
   clear hv
   clear hb3 hb4 hvl
   generalize hw4 : (w3.alloc (.cells zEv 41)).setRow w3.heap.size V = w4 at *
   cases hsb : (Co.getE l b).isSome with
   | false =>
    have HRN : Hid (R = none) := hid (by rw [HR.out]; exact Co.pathR_none (.inl hsb))
    clear hsb
    go_wp2_with ((with_reducible refine store_rowe rfl 41 _ _ rfl w3.heap.size V ?_ ?_ 41 zEv HNEW.out HSX.out HSZ.out HOV.out ?_); rfl; rfl; rw [hw4])
    go_ret2
    exact ⟨PathR.no HRN.out, HB4.out⟩
   | true =>
    have hcs4 : w4.cell? ⟨gs, os + i, none⟩ = some (.slice Aps (Co.setR l b i).length cps) := (Below.cell HB34.out (p := ⟨gs, os + i, none⟩) (block_lt HCS.out)).trans HCS.out
    obtain ⟨p1, hp1, hq1⟩ := place_two a (Co.setR l b i)
    have HP1 : Hid (Calls Tryz.prog 15 #[.slice Aps (Co.setR l b i).length cps, .int .i64 a] w4 fun e w' => e = .returned (.int .i64 p1) ∧ w' = w4) := hid (by rw [← hp1]; exact rplace_any (Co.setR l b i) Aps cps a w4 (HRS.out.below HB34.out) (by have := HPLN.out; omega))
    clear hp1
    rcases hq1 with ⟨rfl, hz1⟩ | ⟨i1, rfl, hz1⟩
    ·have HRN : Hid (R = none) := hid (by rw [HR.out]; exact Co.pathR_none (.inr hz1))
     clear hsb hz1
     generalize (Co.setR l b i).length = pln at *
     go_wp2_with ((with_reducible refine store_rowe rfl 41 _ _ rfl w3.heap.size V ?_ ?_ 41 zEv HNEW.out HSX.out HSZ.out HOV.out ?_); rfl; rfl; rw [hw4])
     refine HP1.out.mono ?_
     rintro e w5 ⟨rfl, rfl⟩
     go_wp2_with fail
     go_ret2
     exact ⟨PathR.no HRN.out, HB4.out⟩
    ·obtain ⟨PL, hPL⟩ : ∃ PL, PL = a :: Co.downR l b i a := ⟨_, rfl⟩
     have HPL0 : Hid (PL = [] ++ [a] ++ Co.downR l b i a) := hid hPL
     have HRY : Hid (R = some PL) := hid (by rw [HR.out, hPL]; exact Co.pathR_some hsb hz1)
     clear hsb hz1 hPL
     generalize hpln : (Co.setR l b i).length = pln at *
     clear hpln
     have HO5 := hid (OI.lit1 (base := w4.heap.size) w4 a (Nat.le_refl _))
     have HB5 := hid ((Below.refl w4.heap.size w4).alloc (Nat.le_refl _) (.cells #[.int .i64 a] 3))
     have HSO4 := hid (Shp.Own.bel (S := SetS) HSO.out HB34.out)
     generalize hw5 : w4.alloc (.cells #[.int .i64 a] 3) = w5 at *
     go_wp2_with ((with_reducible refine store_rowe rfl 41 _ _ rfl w3.heap.size V ?_ ?_ 41 zEv HNEW.out HSX.out HSZ.out HOV.out ?_); rfl; rfl; rw [hw4])
     refine HP1.out.mono ?_
     rintro e w5' ⟨rfl, rfl⟩
     go_wp2_with fail
     go_loopw [19, 20] (fun ox ix wr => ∃ (m : Nat) (at_ : Int) (O : List Int), O.length + m = i ∧ ix = .int .i64 ((m : Int) - 1) ∧ Hid (PL = O ++ [at_] ++ Co.downR l b m at_) ∧ OI wr w5'.heap.size ox (O ++ [at_]) ∧ Below w5'.heap.size w5' wr) (fun _ ix _ => (RowKit.intOf ix + 1).toNat)
     case atStart => exact ⟨i, a, [], by simp, rfl, HPL0, HO5.out, HB5.out⟩
     case round =>
      obtain ⟨m, at_, O, hom, rfl, HPLO, hoo, hb⟩ := hrel
      have HOO := hid hoo
      have HB6 := hid hb
      clear hoo hb
      obtain ⟨w6, hw6⟩ : ∃ x, x = wr := ⟨_, rfl⟩
      subst hw6
      obtain ⟨ov, hov⟩ : ∃ x, x = u19 := ⟨_, rfl⟩
      subst hov
      have HBW6 := hid (HB4.out.trans (HB6.out.mono HB4.out.size))
      cases m with
      | zero =>
       have hm1 : ((0 : Nat) : Int) - 1 = -1 := rfl
       rw [hm1]
       have HPE : Hid (PL = O ++ [at_]) := hid (by rw [HPLO.out]; exact List.append_nil _)
       go_wp2_with fail
       go_ret2
       exact ⟨PathR.yes (by rw [HRY.out, HPE.out]) (own_base' HOO.out HB4.out.size), HBW6.out⟩
      | succ m =>
       have hm1 : ((m + 1 : Nat) : Int) - 1 = (m : Int) := by omega
       rw [hm1]
       have hmi : m < i + 1 := by omega
       obtain ⟨AO, cO, rfl, hcO, hrO⟩ := HOO.out.at_
       rw [show (O ++ [at_]).length = O.length + 1 by simp] at hrO ⊢
       obtain ⟨go_, oo, rfl, hco⟩ := hrO.2 O.length _ (intL_at (l := O ++ [at_]) (k := O.length) (by rw [List.getElem?_append_right (Nat.le_refl _), Nat.sub_self]; rfl))
       clear hcO hrO
       go_wp2_with fail
       refine (HGET.out at_ w6 (HROW.out.bel HBW6.out)).mono ?_
       rintro e w7 ⟨⟨V, rfl, hv⟩, hb7⟩
       have hvl := hv.len
       rw [Array.length_toList] at hvl
       have HSX : Hid ((Tryz.prog.info? 41).map (·.size) = some V.size) := hid (by rw [size_ev, hvl])
       have HSZ : Hid (zEv.size = V.size) := hid hvl.symm
       have HOV : Hid (V.all (·.oneCell') = true) := hid (by have := EvS.all hv; rwa [Array.toArray_toList] at this)
       obtain ⟨cp, ca, _, _, _, _, hX, hL⟩ := hv
       obtain ⟨Ap, capp, rfl, hrp, -⟩ := hL.prev
       obtain ⟨Aa, capa, rfl, hra, hlo⟩ := hL.auth
       have HLO := hid hlo
       clear hlo
       have HC8 : Hid (V[8]? = some (.slice Ap ((Co.getE l at_).getD default).prev.length capp)) := hid (by rw [← Array.getElem?_toList, hX]; rfl)
       have HC9 : Hid (V[9]? = some (.slice Aa ((Co.getE l at_).getD default).auth.length capa)) := hid (by rw [← Array.getElem?_toList, hX]; rfl)
       have HC0 : Hid (V[0]? = some (.int .i64 ((Co.getE l at_).getD default).id)) := hid (by rw [← Array.getElem?_toList, hX]; rfl)
       have hra2 : Rd w7 Aa ((Co.getE l at_).getD default).auth.length (intL ((Co.getE l at_).getD default).auth) := by have := hra; rw [Nat.mul_one] at this; exact this
       have HNEW := hid (Blk.new w7 41 zEv)
       have hb8 := below_setRow (g := w7.heap.size) ((Below.refl w7.heap.size w7).alloc (Nat.le_refl _) (.cells zEv 41)) (Nat.le_refl _) V
       have HK8 : Hid (Blk ((w7.alloc (.cells zEv 41)).setRow w7.heap.size V) w7.heap.size 41 V) := hid (setRow_heap _ _ _ _ _ _ HNEW.out)
       have HB78 := hid (hb7.trans (hb8.mono hb7.size))
       have HSMM := hid hb7.size
       have HB8 := hid (HBW6.out.trans (HB78.out.mono HBW6.out.size))
       have HN87 := hid HK8.out.lt
       have HRA := hid (hra2.below hb8)
       clear hX hL hra hra2 hrp
       clear HC8
       clear hb7 hb8 hvl
       generalize hw8 : (w7.alloc (.cells zEv 41)).setRow w7.heap.size V = w8 at *
       obtain ⟨Am, cm, hcm, hrm⟩ := SetO.get HSO4.out (Co.setsR_at (l := l) (b := b) (n := i) (i := m) (by omega))
       obtain ⟨PM, hPM⟩ : ∃ PM, PM = Co.setR l b m := ⟨_, rfl⟩
       rw [← hPM] at hcm hrm
       have HPM := hid hPM
       have HCM := hid hcm
       have HRM := hid hrm
       have HPML : Hid (PM.length ≤ 10001) := hid (by rw [hPM]; have := Co.setR_len l b m; omega)
       clear hcm hrm hPM
       have HAU := hid (auth_is l at_)
       have hall : ((Co.getE l at_).getD default).auth.length ≤ 1000000 := auth_all (P := fun L => L.length ≤ 1000000) (by decide) HW.out at_
       generalize ((Co.getE l at_).getD default).auth = AU at *
       generalize ((Co.getE l at_).getD default).prev = PV at *
       generalize ((Co.getE l at_).getD default).id = xid at *
       generalize (Co.getE l at_).isSome = sb at *
       have HO8 : Hid (OI w8 w5'.heap.size (.slice (some ⟨go_, oo, none⟩) (O.length + 1) cO) (O ++ [at_])) := hid (by rw [show O.length + 1 = (O ++ [at_]).length by simp]; exact own_bel HOO.out HB78.out)
       have HB58 := hid (HB6.out.trans (HB78.out.mono HB6.out.size))
       go_wp2_with ((with_reducible refine store_rowe rfl 41 _ _ rfl w7.heap.size V ?_ ?_ 41 zEv HNEW.out HSX.out HSZ.out HOV.out ?_); rfl; rfl; rw [hw8])
       go_loopw [23, 24, 25] (fun qx fx jx wr => ∃ (j : Nat) (o : Option Int), j ≤ AU.length ∧ qx = .int .i64 (o.getD 0) ∧ fx = .bool o.isSome ∧ jx = .int .i64 (j : Int) ∧ Hid (Lst (fun a => PM.contains a) (AU.take j) o) ∧ Below w8.heap.size w8 wr) (fun _ _ jx _ => AU.length - (RowKit.intOf jx).toNat)
       case atStart => exact ⟨0, none, Nat.zero_le _, rfl, rfl, rfl, hid (fun x hx => by cases hx), Below.refl _ _⟩
       case round =>
        obtain ⟨j, o, hj, rfl, rfl, rfl, HLS, hb⟩ := hrel
        have HB9 := hid hb
        clear hb
        obtain ⟨w9, hw9⟩ : ∃ x, x = wr := ⟨_, rfl⟩
        subst hw9
        have HB59 := hid (HB58.out.trans (HB9.out.mono HB58.out.size))
        have hc9 : w9.cell? ⟨w7.heap.size, 9, none⟩ = some (.slice Aa AU.length capa) := (Below.cell HB9.out (p := ⟨w7.heap.size, 9, none⟩) HN87.out).trans ((HK8.out.cell 9).trans HC9.out)
        by_cases hlj : j < AU.length
        ·obtain ⟨z, hz⟩ : ∃ z, AU[j]? = some z := ⟨_, List.getElem?_eq_getElem hlj⟩
         obtain ⟨ga, oa, rfl, hcz⟩ := (HRA.out.below HB9.out).2 j _ (intL_at hz)
         have hcm9 : w9.cell? ⟨gs, os + m, none⟩ = some (.slice Am PM.length cm) := (Below.cell HB59.out (p := ⟨gs, os + m, none⟩) (block_lt HCM.out)).trans HCM.out
         have HZ := hid hz
         have hcj : j + 1 ≤ AU.length := hlj
         clear hz
         obtain ⟨p1, hp1, hq1⟩ := place_two z PM
         have HP1 : Hid (∀ q, Calls Tryz.prog 15 #[.slice Am PM.length cm, .int .i64 z] (w9.drewN q) fun e w' => e = .returned (.int .i64 p1) ∧ w' = w9.drewN q) := hid (fun q => by rw [← hp1]; exact rplace_any PM Am cm z (w9.drewN q) ((HRM.out.below HB59.out).drewN q) (by have := HPML.out; omega))
         clear hp1
         rcases hq1 with ⟨rfl, hz1⟩ | ⟨i1, rfl, hz1⟩
         ·have HNX : Hid (Lst (fun a => PM.contains a) (AU.take (j + 1)) o) := hid (lst_no HZ.out HLS.out hz1)
          clear hz1
          go_wp2_with fail
          go_quiet ((go_at_call_of 15 (Value.int .i64 z); exact Calls.quiet_of_same (HP1.out _)))
          go_wp2_with fail
          go_roundw
          case rel => exact ⟨j + 1, o, hcj, rfl, rfl, by go_num, HNX, below_drewN HB9.out _⟩
          case measure => simp [RowKit.intOf]; omega
         ·cases o with
          | none =>
           have HNX : Hid (Lst (fun a => PM.contains a) (AU.take (j + 1)) (some z)) := hid (lst_new HZ.out HLS.out hz1 (fun y hy => by cases hy))
           clear hz1
           go_wp2_with fail
           go_quiet ((go_at_call_of 15 (Value.int .i64 z); exact Calls.quiet_of_same (HP1.out _)))
           go_wp2_with fail
           go_roundw
           case rel => exact ⟨j + 1, (some z), hcj, rfl, rfl, by go_num, HNX, below_drewN HB9.out _⟩
           case measure => simp [RowKit.intOf]; omega
          | some y =>
           by_cases hzy : z < y
           ·have HNX : Hid (Lst (fun a => PM.contains a) (AU.take (j + 1)) (some z)) := hid (lst_new HZ.out HLS.out hz1 (fun y' hy => by injection hy with hy; omega))
            clear hz1
            have hzd : decide (z < y) = true := decide_eq_true hzy
            go_wp2_with fail
            go_quiet ((go_at_call_of 15 (Value.int .i64 z); exact Calls.quiet_of_same (HP1.out _)))
            go_wp2_with fail
            go_roundw
            case rel => exact ⟨j + 1, (some z), hcj, rfl, rfl, by go_num, HNX, below_drewN HB9.out _⟩
            case measure => simp [RowKit.intOf]; omega
           ·have HNX : Hid (Lst (fun a => PM.contains a) (AU.take (j + 1)) (some y)) := hid (lst_ge HZ.out HLS.out (by omega))
            clear hz1
            have hzd : decide (z < y) = false := decide_eq_false hzy
            go_wp2_with fail
            go_quiet ((go_at_call_of 15 (Value.int .i64 z); exact Calls.quiet_of_same (HP1.out _)))
            go_wp2_with fail
            go_roundw
            case rel => exact ⟨j + 1, (some y), hcj, rfl, rfl, by go_num, HNX, below_drewN HB9.out _⟩
            case measure => simp [RowKit.intOf]; omega
        ·obtain rfl : j = AU.length := by omega
         have HLS2 : Hid (Lst (fun a => (Co.setR l b m).contains a) (AU.take AU.length) o) := hid (by rw [← HPM.out]; exact HLS.out)
         have HRN : Hid (PL = O ++ [at_] ++ [o.getD 0] ++ Co.downR l b m (o.getD 0)) := hid (by rw [HPLO.out, downR_step HAU.out HLS2.out]; simp)
         have HO9 := hid (own_bel HO8.out HB9.out)
         have HS9 := hid HB59.out.size
         have HOL : Hid ((O ++ [at_]).length ≤ 100000000) := hid (by rw [List.length_append, List.length_singleton]; omega)
         have HOM : Hid ((O ++ [at_]).length + m = i) := hid (by rw [List.length_append, List.length_singleton]; omega)
         generalize o.getD 0 = q at *
         go_wp2_with ((with_reducible refine app_own (L := O ++ [at_]) rfl _ _ rfl w9 q ?_ HO9.out ?_ HS9.out HOL.out ?_); rfl; rfl; intro v7 wa ho7 hb7 _; have HO7 := hid ho7; have HB7 := hid (hb7 w5' HB59.out); clear ho7 hb7)
         go_roundw
         case rel => exact ⟨m, q, O ++ [at_], HOM.out, rfl, HRN, HO7.out, HB7.out⟩
         case measure => simp [RowKit.intOf]
end Go.Proofs.YtiidljciaccidaaGreatDoor
/- The text Oj. -/
namespace Go.Proofs.YtiidljciaccidaaGreatDoor
open Go.RowKit Go.Lib
set_option linter.unusedVariables false
set_option linter.unusedSimpArgs false
def PathB (L : List Int) (e : Ending) (w' : World) : Prop := ∃ A cap, e = .returned (.slice A L.length cap) ∧ Rd w' A L.length (intL L)
theorem PathB.nil {L : List Int} {w' : World} (h : L = []) : PathB L (.returned (.slice none 0 0)) w' := by subst h; exact ⟨none, 0, rfl, rfl, fun j v hj => by cases hj⟩
theorem rpathb_any (ok : Nat → Prop) (l : List Co.Ev) (A : Option Addr) (cap : Nat) (a b : Int) (w : World) (h : EvRow ok w A l) (hl : l.length ≤ 10000) (hW : ∀ e ∈ l, e.auth.length ≤ 1000000) :
  Calls Tryz.prog 7 #[.slice A l.length cap, .int .i64 a, .int .i64 b] w fun e w' => PathB (Co.pathQ l a b) e w' ∧ Below w.heap.size w w' := by
 have HROW := hid h
 have HPT := hid (fun (n : Nat) (W : World) (hr : EvRow ok W A l) (hn : n ≤ 10000) => rpath_any ok l A cap a b n W hr hl hn hW)
 have HG := hid (rget_any ok l A cap a w h (by omega))
 obtain ⟨R, hR⟩ : ∃ R, R = Co.pathQ l a b := ⟨_, rfl⟩
 have HR := hid hR
 have HB0 := hid (Below.refl w.heap.size w)
 rw [← hR]
 clear h hW hR
 go_enter Tryz.func7, Tryz.ntmps7
 go_wp2_with fail
 refine HG.out.mono ?_
 rintro e w2 ⟨⟨V, rfl, hv⟩, hb2⟩
 have hvl := hv.len
 rw [Array.length_toList] at hvl
 have HSX : Hid ((Tryz.prog.info? 41).map (·.size) = some V.size) := hid (by rw [size_ev, hvl])
 have HSZ : Hid (zEv.size = V.size) := hid hvl.symm
 have HOV : Hid (V.all (·.oneCell') = true) := hid (by have := EvS.all hv; rwa [Array.toArray_toList] at this)
 have HNEW := hid (Blk.new w2 41 zEv)
 have hb3 := below_setRow (g := w2.heap.size) ((Below.refl w2.heap.size w2).alloc (Nat.le_refl _) (.cells zEv 41)) (Nat.le_refl _) V
 have HK3 : Hid (Blk ((w2.alloc (.cells zEv 41)).setRow w2.heap.size V) w2.heap.size 41 V) := hid (setRow_heap _ _ _ _ _ _ HNEW.out)
 have HB23 := hid (hb2.trans (hb3.mono hb2.size))
 have HSMM := hid hb2.size
 have HB3 := hid (HB0.out.trans (HB23.out.mono HB0.out.size))
 have HN32 := hid HK3.out.lt
 clear hv
 clear hb2 hb3 hvl
 generalize hw3 : (w2.alloc (.cells zEv 41)).setRow w2.heap.size V = w3 at *
 cases hsa : (Co.getE l a).isSome with
 | false =>
  have HN : Hid (R = []) := hid (by rw [HR.out]; unfold Co.pathQ; rw [hsa]; rfl)
  clear hsa
  go_wp2_with ((with_reducible refine store_rowe rfl 41 _ _ rfl w2.heap.size V ?_ ?_ 41 zEv HNEW.out HSX.out HSZ.out HOV.out ?_); rfl; rfl; rw [hw3])
  go_ret
  exact ⟨PathB.nil HN.out, HB3.out⟩
 | true =>
  have HF0 : Hid (Co.firstR l a b (l.length - 0) 0 = R) := hid (by rw [HR.out]; unfold Co.pathQ; rw [hsa]; rfl)
  clear hsa
  go_wp2_with ((with_reducible refine store_rowe rfl 41 _ _ rfl w2.heap.size V ?_ ?_ 41 zEv HNEW.out HSX.out HSZ.out HOV.out ?_); rfl; rfl; rw [hw3])
  go_loopw [9] (fun nx wr => ∃ n : Nat, n ≤ l.length ∧ nx = .int .i64 (n : Int) ∧ Hid (Co.firstR l a b (l.length - n) n = R) ∧ Below w.heap.size w wr) (fun nx _ => l.length - (RowKit.intOf nx).toNat)
  case atStart => exact ⟨0, Nat.zero_le _, rfl, HF0, HB3.out⟩
  case round =>
   obtain ⟨n, hn, rfl, HF, hb⟩ := hrel
   have HB := hid hb
   clear hb
   obtain ⟨w4, hw4⟩ : ∃ x, x = wr := ⟨_, rfl⟩
   subst hw4
   by_cases hlt : n < l.length
   ·have HP := hid (HPT.out n w4 (HROW.out.bel HB.out) (by omega))
    have hck : n + 1 ≤ l.length := hlt
    cases hp : Co.pathR l a b n with
    | none =>
     have HF2 := hid (Co.firstR_go hlt HF.out hp)
     rw [hp] at HP
     clear hp
     go_wp2_with fail
     refine HP.out.mono ?_
     rintro e w5 ⟨he, hb5⟩
     obtain rfl : e = .returned (.tuple #[.slice none 0 0, .bool false]) := he
     have HB5 := hid (HB.out.trans (hb5.mono HB.out.size))
     clear hb5
     go_wp2_with fail
     go_roundw
     case rel => exact ⟨n + 1, hck, by go_num, HF2, HB5.out⟩
     case measure => simp [RowKit.intOf]; omega
    | some p =>
     have HRP := hid (Co.firstR_hit hlt HF.out hp)
     rw [hp] at HP
     clear hp
     go_wp2_with fail
     refine HP.out.mono ?_
     rintro e w5 ⟨⟨v, rfl, hv⟩, hb5⟩
     have HB5 := hid (HB.out.trans (hb5.mono HB.out.size))
     obtain ⟨C, c5, rfl, _, hr5⟩ := hv.at_
     have HRT : Hid (PathB R (.returned (.slice C p.length c5)) w5) := hid (by rw [HRP.out]; exact ⟨C, c5, rfl, hr5⟩)
     clear hb5 hv hr5
     go_wp2_with fail
     go_ret
     exact ⟨HRT.out, HB5.out⟩
   ·obtain rfl : n = l.length := by omega
    have HN : Hid (R = []) := hid (by have := HF.out; rw [Nat.sub_self] at this; exact this.symm)
    go_wp2_with fail
    go_ret
    exact ⟨PathB.nil HN.out, HB.out⟩
end Go.Proofs.YtiidljciaccidaaGreatDoor
