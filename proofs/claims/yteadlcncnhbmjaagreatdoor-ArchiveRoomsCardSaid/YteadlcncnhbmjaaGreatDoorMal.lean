/- The texts An9, Ana, Anb, Anc, And, Ane, Anf of this proof, one behind the other. -/
import Derived.Lib.AppendZerosOnto
import Derived.Test.YteadlcncnhbmjaaGreatDoorMak
set_option linter.unusedSimpArgs false
set_option maxHeartbeats 16000000
set_option maxRecDepth 100000
/- The text An9. -/
namespace Go.Proofs.YteadlcncnhbmjaaGreatDoor
open Go.RowKit Go.Lib
set_option linter.unusedVariables false
theorem info_field : (Tryz.prog.info? 82).map (fun i => (i.zero, i.size, i.bytes)) = some (some (.agg #[.string ByteArray.empty, .nilFunc, .nilFunc]), 3, 32) := by kernel_rfl
theorem rowField : RowT 78 82 3 32 := ⟨Tryz.underlying78, ⟨_, info_field, rfl⟩, by decide, by decide⟩
theorem grow_any (n : Nat) (w : World) (hn : 0 < n) (hn2 : n ≤ 1000) :
  Calls Tryz.prog 159 #[.slice none 0 0, .int .i64 n] w fun e w' => (∃ v, e = .returned v ∧ w'.ownsRow w.heap.size 82 3 v 0 []) ∧ Below w.heap.size w w' := by
 obtain ⟨i, hi, hz, hs, hb⟩ := info_parts info_field
 have hrz : ∀ ty, (Builtin.append_ #[78, 3] ty #[.slice none 0 0, .int .i64 n]).run Tryz.prog w = _ := fun ty => Lib.run_append_grow_zeros w 78 3 ty 82 i _ .i64 .i64 Tryz.underlying78 Tryz.underlying3 hi hz none 0 0 [] (run_firstCells_none w.drew i.size 0 0 0) n hn (by omega) (by omega) (by omega) (by rw [hb]; omega) (growslice_fits (by omega) (by rw [hb]; omega))
 rw [Nat.zero_add] at hrz
 have hGn : n ≤ grownCap w n 0 82 := grownCap_ge w _ _ _
 have hG48 := grownCap_le_maxLen w n 0 82 (by unfold maxLen; omega)
 obtain ⟨G, hG⟩ : ∃ G, G = grownCap w n 0 82 := ⟨_, rfl⟩
 rw [← hG] at hrz hGn hG48
 have hG63 : G ≤ 9223372036854775807 := by unfold maxLen at hG48; omega
 clear hG hi hz hs hb
 have HL := hid hG48
 obtain ⟨cs, hcs⟩ : ∃ cs : Array Value, cs = #[] ++ Builtin.zeroCells (Value.agg #[Value.string ByteArray.empty, Value.nilFunc, Value.nilFunc]).cells n ++ Builtin.zeroCells (Value.agg #[Value.string ByteArray.empty, Value.nilFunc, Value.nilFunc]).cells (G - n) := ⟨_, rfl⟩
 have hcn : cs.size = G * 3 := by
  rw [hcs, Array.size_append, Array.size_append, size_zeroCells, size_zeroCells]
  show 0 + n * 3 + (G - n) * 3 = G * 3
  omega
 rw [show (List.toArray ([] : List Value)) = #[] from rfl, ← hcs] at hrz
 clear hcs hG48
 go_enter Tryz.func159, Tryz.ntmps159
 go_wp2_with (at_builtin; refine Lib.wpList_append_run _ rfl _ _ _ _ rfl _ _ rfl rfl _ _ (hrz _) ?_)
 all_goals
  go_ret
  exact ⟨⟨_, rfl, rfl, .inr ⟨w.heap.size, G, cs, rfl, Nat.le_refl _, (Blk.new w.drew _ cs), Nat.zero_le _, HL.out, hcn, rfl⟩⟩, (Below.refl _ w).drew.alloc (Nat.le_refl _) _⟩
end Go.Proofs.YteadlcncnhbmjaaGreatDoor
/- The text Ana. -/
namespace Go.Proofs.YteadlcncnhbmjaaGreatDoor
open Go.RowKit Go.Lib
set_option linter.unusedVariables false
section
variable {ops : Array Oper} {rest : List Oper} {o : Oper} {a : Act} {Q : Exit → Act → World → Prop} {T e : TypeId} {size bytes : Nat}
theorem app_src (hT : RowT T e size bytes) (hgd : o.guard = none) (s x : Operand) (ho : o.op = .call { callee := .builtin .append, args := #[s, x], argTypes := #[T, T] })
  (wr : World) (ys : List Value) (m : Nat) (hl : ys.length = m * size) (h1 : ∀ u ∈ ys, u.oneCell' = true) (v : Value) (n : Nat) (xs : List Value) (base : Nat) (hs : a.eval s = v) (hown : wr.ownsRow base e size v n xs)
  (g c : Nat) (hx : a.eval x = .slice (some ⟨g, 0, none⟩) m c) (hr : ∀ j u, ys[j]? = some u → wr.cell? ⟨g, j, none⟩ = some u) (hbase : base ≤ wr.heap.size) (hlen : n + m ≤ 100000000000)
  (h : ∀ v' w', w'.ownsRow base e size v' (n + m) (xs ++ ys) → wr.grownBy w' v.ownBlock → (∀ w0, Below base w0 wr → Below base w0 w') → wpList Tryz.prog ops Q rest (a.put o.dst v') w') :
  wpList Tryz.prog ops Q (o :: rest) a wr := by
 refine wpList_plain hgd fun K hK => ?_
 obtain ⟨v', w', hrun, h2, h3, h4⟩ := run_appG hT o.type wr v n xs ys base hown g m c hl h1 hr hbase hlen
 unfold Oper.wp execOp
 simp only [ho, resolve, invoke, builtin, Sem.run_bind, Sem.run_pure, Result.andThen_ok, List.map_toArray, List.map_cons, List.map_nil, hs, hx, hrun]
 exact hK _ _ (h v' w' h2 h3 h4)
end
structure Src where
 g : Nat
 n : Nat
 c : Nat
 vs : List Value
abbrev Src.val (s : Src) : Value := .slice (some ⟨s.g, 0, none⟩) s.n s.c
structure Src.Ok (w : World) (s : Src) : Prop where
 rd : Rd w (some ⟨s.g, 0, none⟩) (s.n * 3) s.vs
 one : ∀ u ∈ s.vs, u.oneCell' = true
def sumN (l : List Src) : Nat := (l.map (·.n)).sum
theorem sumN_snoc {l : List Src} {k : Nat} {s : Src} (h : l[k]? = some s) : sumN (l.take (k + 1)) = sumN (l.take k) + s.n := by
 unfold sumN
 rw [take_snoc h, List.map_append, List.sum_append]
 simp
theorem sumN_le : ∀ (l : List Src) (k : Nat), sumN (l.take k) ≤ sumN l
 | [], k => by simp
 | s :: l, 0 => by unfold sumN; simp
 | s :: l, k + 1 => by
  have := sumN_le l k
  unfold sumN at *
  rw [List.take_succ_cons, List.map_cons, List.map_cons, List.sum_cons, List.sum_cons]
  omega
theorem flat_snoc {l : List Src} {k : Nat} {s : Src} (h : l[k]? = some s) : (l.take (k + 1)).flatMap (·.vs) = (l.take k).flatMap (·.vs) ++ s.vs := by rw [take_snoc h, List.flatMap_append]; simp
theorem Src.Ok.below {w w' : World} {s : Src} (h : s.Ok w) (hb : Below w.heap.size w w') : s.Ok w' := ⟨h.rd.below hb, h.one⟩
theorem concat_any (q c : Nat) (l : List Src) (w : World) (hR : Rd w (some ⟨q, 0, none⟩) l.length (l.map Src.val)) (hO : ∀ s ∈ l, s.Ok w) (h0 : 0 < sumN l) (h1 : sumN l ≤ 1000) (hl : l.length ≤ 1000) :
  Calls Tryz.prog 102 #[.slice (some ⟨q, 0, none⟩) l.length c] w fun e w' => (∃ v, e = .returned v ∧ w'.ownsRow w.heap.size 82 3 v (sumN l) (l.flatMap (·.vs))) ∧ Below w.heap.size w w' := by
 have HR := hid hR
 have HO := hid hO
 have HLE := hid (sumN_le l)
 have HAT : Hid (∀ k, k < l.length → ∃ s, l[k]? = some s ∧ s ∈ l) := hid (fun k hk => ⟨l[k], List.getElem?_eq_getElem hk, List.getElem_mem hk⟩)
 clear hR hO
 go_enter Tryz.func102, Tryz.ntmps102
 go_wp2_with fail
 go_loopw [3, 11] (fun sz ix wr => ∃ k : Nat, k ≤ l.length ∧ ix = .int .i64 k ∧ sz = .int .i64 (sumN (l.take k) : Nat) ∧ w = wr) (fun _ ix _ => l.length - (RowKit.intOf ix).toNat)
 case atStart => exact ⟨0, by omega, rfl, rfl, rfl⟩
 case round =>
  obtain ⟨k, hk, rfl, rfl, hw⟩ := hrel
  subst hw
  by_cases hlt : k < l.length
  ·obtain ⟨s, hs, hm⟩ := HAT.out k hlt
   obtain ⟨b, off, v, e1, e2, hc⟩ := HR.out.at_ hlt
   injection e1 with e1
   injection e1 with e1 e3 e4
   subst e1 e3
   rw [List.getElem?_map, hs] at e2
   injection e2 with e2
   subst e2
   rw [Nat.zero_add] at hc
   have hsn := sumN_snoc hs
   have hle := HLE.out (k + 1)
   have HS := hid hsn
   obtain ⟨u, hu⟩ : ∃ u, sumN (l.take k) = u := ⟨_, rfl⟩
   rw [hu] at hsn HS ⊢
   rw [hsn] at hle
   clear hs hm hsn hu
   go_wp2_with fail
   go_roundw
   case rel => exact ⟨k + 1, by omega, by go_num, by rw [HS.out]; go_num, trivial⟩
   case measure => simp [RowKit.intOf]; omega
  ·obtain rfl : k = l.length := by omega
   rw [List.take_length]
   have HSL := hid h1
   obtain ⟨S, hS⟩ : ∃ S, sumN l = S := ⟨_, rfl⟩
   have HSS := hid hS
   rw [hS] at h0 h1 ⊢
   clear hS
   go_wp2_with fail
   refine (grow_any S _ h0 h1).mono ?_
   rintro e w2 ⟨⟨v2, rfl, ho2⟩, hb2⟩
   have HO2 := hid ho2
   have HB2 := hid hb2
   clear ho2 hb2
   go_wp2_with fail
   go_loopw [6, 27] (fun out ix wr => ∃ k : Nat, k ≤ l.length ∧ ix = .int .i64 k ∧ wr.ownsRow w.heap.size 82 3 out (sumN (l.take k)) ((l.take k).flatMap (·.vs)) ∧ Below w.heap.size w wr) (fun _ ix _ => l.length - (RowKit.intOf ix).toNat)
   case atStart => exact ⟨0, by omega, rfl, HO2.out, HB2.out⟩
   case round =>
    obtain ⟨k, hk, rfl, ho, hb⟩ := hrel
    have HOW := hid ho
    have HB := hid hb
    have hbs := hb.size
    clear ho
    by_cases hlt : k < l.length
    ·obtain ⟨s, hs, hm⟩ := HAT.out k hlt
     obtain ⟨b, off, v, e1, e2, hc⟩ := (HR.out.below hb).at_ hlt
     injection e1 with e1
     injection e1 with e1 e3 e4
     subst e1 e3
     rw [List.getElem?_map, hs] at e2
     injection e2 with e2
     subst e2
     rw [Nat.zero_add] at hc
     have hok := (HO.out s hm).below hb
     have HS := hid (sumN_snoc hs)
     have HF := hid (flat_snoc hs)
     have hle := HLE.out (k + 1)
     rw [HS.out, HSS.out] at hle
     have HOK := hid hok
     have HRD : Hid (∀ j u, s.vs[j]? = some u → wr.cell? ⟨s.g, j, none⟩ = some u) := hid (fun j u hj => by
      obtain ⟨g', o', e, h⟩ := hok.rd.2 j u hj
      injection e with e
      injection e with e5 e6 e7
      subst e5 e6
      rwa [Nat.zero_add] at h)
     have HLV : Hid (s.vs.length = s.n * 3) := hid hok.rd.1
     obtain ⟨u, hu⟩ : ∃ u, sumN (l.take k) = u := ⟨_, rfl⟩
     rw [hu] at HOW HS hle
     clear hs hm hu hb hok
     go_wp2_with (at_builtin; refine app_src rowField rfl _ _ rfl wr s.vs s.n HLV.out HOK.out.one u6 u ((l.take k).flatMap (·.vs)) w.heap.size rfl HOW.out s.g s.c rfl HRD.out hbs (by omega) ?_; intro v4 w4 ho4 hg4 hb4)
     go_roundw
     case rel => exact ⟨k + 1, by omega, by go_num, by rw [HS.out, HF.out]; exact ho4, hb4 w HB.out⟩
     case measure => simp [RowKit.intOf]; omega
    ·obtain rfl : k = l.length := by omega
     rw [List.take_length] at HOW
     rw [HSS.out] at HOW
     go_wp2_with fail
     go_ret
     exact ⟨⟨_, rfl, by rw [HSS.out]; exact HOW.out⟩, HB.out⟩
end Go.Proofs.YteadlcncnhbmjaaGreatDoor
/- The text Anb. -/
namespace Ar
def wtext (nm : Str) : FV → Str
 | .flg b => if b then nm else []
 | v => v.text
def FV.Small : FV → Prop
 | .txt s => s.length ≤ 1000000
 | .nums l => l.length ≤ 1000000
 | .txts l => l.length ≤ 1000000 ∧ ∀ x ∈ l, x.length ≤ 1000000
 | .usrs l => l.length ≤ 1000000 ∧ ∀ x ∈ l, x.1.length ≤ 1000000
 | .knds l => l.length ≤ 1000000
 | _ => True
def FV.WOk (v : FV) : Prop := v.Ok ∧ v.text.length ≤ 100000000 ∧ v.Small
end Ar
namespace Go.Proofs.YteadlcncnhbmjaaGreatDoor
open Go.RowKit Go.Lib
set_option linter.unusedVariables false
def SlcOf (ok : Nat → Prop) (w : World) (c : Value) (n sz : Nat) (vs : List Value) : Prop := ∃ A cap, c = .slice A n cap ∧ Rd w A (n * sz) vs ∧ (0 < n → ∀ a, A = some a → ok a.block)
def CellOf (ok : Nat → Prop) (w : World) (c : Value) : Ar.FV → Prop
 | .num n => c = .int .i64 n
 | .txt s => c = .string (bstr s)
 | .flg b => c = .bool b
 | .nums l => SlcOf ok w c l.length 1 (intL l)
 | .txts l => SlcOf ok w c l.length 1 (strL l)
 | .usrs l => SlcOf ok w c l.length 2 (usrL l)
 | .knds l => SlcOf ok w c l.length 2 (kndL l)
theorem SlcOf.keep {ok ok' : Nat → Prop} {w w' : World} {c : Value} {n sz : Nat} {vs : List Value} (h : SlcOf ok w c n sz vs) (hsz : 0 < sz) (hk : ∀ b, ok b → b < w.heap.size → ok' b ∧ w'.heap[b]? = w.heap[b]?) : SlcOf ok' w' c n sz vs := by
 obtain ⟨A, cap, rfl, h1, h2⟩ := h
 have hbl : ∀ a, A = some a → 0 < n → a.block < w.heap.size := fun a ha hn => h1.block ha (Nat.mul_pos hn hsz)
 refine ⟨A, cap, rfl, ⟨h1.1, fun j v hj => ?_⟩, fun hn a ha => (hk _ (h2 hn a ha) (hbl a ha hn)).1⟩
 obtain ⟨g, o, e, hc⟩ := h1.2 j v hj
 have hn : 0 < n := by
  rcases Nat.eq_zero_or_pos n with e0 | e0
  ·have := h1.1
   rw [e0, Nat.zero_mul] at this
   rw [List.eq_nil_of_length_eq_zero this] at hj
   simp at hj
  ·exact e0
 refine ⟨g, o, e, ?_⟩
 rw [← hc]
 exact World.cell?_of_block (w := w) (hk g (h2 hn _ e) (hbl _ e hn)).2
theorem CellOf.keep {ok ok' : Nat → Prop} {w w' : World} {c : Value} {v : Ar.FV} (h : CellOf ok w c v) (hk : ∀ b, ok b → b < w.heap.size → ok' b ∧ w'.heap[b]? = w.heap[b]?) : CellOf ok' w' c v := by
 cases v with
 | num n => exact h
 | txt s => exact h
 | flg b => exact h
 | nums l => exact SlcOf.keep h (by decide) hk
 | txts l => exact SlcOf.keep h (by decide) hk
 | usrs l => exact SlcOf.keep h (by decide) hk
 | knds l => exact SlcOf.keep h (by decide) hk
theorem SlcOf.of_own {base : Nat} {w : World} {e : TypeId} {c : Value} {n sz : Nat} {vs : List Value} (h : w.ownsRow base e sz c n vs) : SlcOf (fun b => base ≤ b) w c n sz vs := by
 obtain ⟨h1, h2⟩ := h
 rcases h2 with ⟨rfl, rfl⟩ | ⟨g, cap, cur, rfl, hg, hh, hn, hcap, hsz, ht⟩
 ·rw [Nat.zero_mul] at h1
  refine ⟨none, 0, rfl, ⟨by rw [Nat.zero_mul]; exact h1, fun j v hj => ?_⟩, fun hn => absurd hn (by omega)⟩
  rw [List.eq_nil_of_length_eq_zero h1] at hj
  simp at hj
 ·refine ⟨_, _, rfl, ⟨h1, fun j v hj => ⟨g, 0, rfl, ?_⟩⟩, fun _ a e => by injection e with e; subst e; exact hg⟩
  have hB : Blk w g e cur := hh
  rw [Nat.zero_add, hB.cell, ← Array.getElem?_toList]
  rw [← ht] at hj
  have hlt := (List.getElem?_eq_some_iff.1 hj).1
  rw [List.length_take] at hlt
  rwa [List.getElem?_take_of_lt (by omega)] at hj
structure Fld where
 nm : List UInt8
 F : FuncId
 G : FuncId
 cf : Array Value
 cg : Array Value
 bs : List (Addr × Value)
def Fld.vals (f : Fld) : List Value := [.string (bstr f.nm), .func (.func f.F) #[] f.cf, .func (.func f.G) #[] f.cg]
def Fld.Boxed (f : Fld) (lo : Nat) (w : World) : Prop := ∀ p ∈ f.bs, lo ≤ p.1.block ∧ w.cell? p.1 = some p.2
structure FldS (i : Nat) (k : Ar.FK) (f : Fld) : Prop where
 entF : ∀ (args : Array Value) (w : World), (callFunc f.F args).run Tryz.prog w = .ok (.enter f.F args) w
 entG : ∀ (args : Array Value) (w : World), (callFunc f.G args).run Tryz.prog w = .ok (.enter f.G args) w
 writes : ∀ (lo : Nat) (w : World) (cells : Array Value) (c : Value) (v : Ar.FV) (ok : Nat → Prop), f.Boxed lo w → cells[i]? = some c → CellOf ok w c v → v.kind = k → v.WOk →
  Calls Tryz.prog f.F (#[.agg cells] ++ f.cf) w fun e w' => e = .returned (.string (bstr (Ar.wtext f.nm v))) ∧ Below w.heap.size w w'
 reads : ∀ (lo : Nat) (w : World) (g ge : Nat) (r : Ar.RS) (cells : Array Value), f.Boxed lo w → RdS w g r → r.1.length ≤ 1000000 → Ready w → 3 ≤ g → Blk w ge 40 cells → ge ≠ g → i < cells.size →
  Calls Tryz.prog f.G (#[.pointer (some ⟨g, 0, none⟩), .pointer (some ⟨ge, 0, none⟩)] ++ f.cg) w fun e w' => e = .returned (.tuple #[]) ∧ Reads w w' g ge i (Ar.readK k r).2 (fun W c => CellOf (fun b => w.heap.size ≤ b) W c (Ar.readK k r).1)
theorem Reads.mono {w w' : World} {g ge i : Nat} {r' : Ar.RS} {C D : World → Value → Prop} (h : Reads w w' g ge i r' C) (hC : ∀ W c, C W c → D W c) : Reads w w' g ge i r' D := by
 obtain ⟨w2, c, h1, h2, h3, h4⟩ := h
 exact ⟨w2, c, h1, h2, h3, hC _ _ h4⟩
theorem Fld.Boxed.get {f : Fld} {lo : Nat} {w : World} (h : f.Boxed lo w) {a : Addr} {v : Value} (hm : (a, v) ∈ f.bs) : w.cell? a = some v := (h _ hm).2
theorem Calls.and_left' {f : FuncId} {args : Array Value} {w : World} {Q R : Ending → World → Prop} (h : Calls Tryz.prog f args w Q) (hm : ∀ e w', Q e w' → R e w') : Calls Tryz.prog f args w R := h.mono hm
abbrev bP (b : Nat) : Value := .pointer (some ⟨b, 0, none⟩)
abbrev accV (acc : FuncId) : Value := .func (.func acc) #[] #[]
def mkNum (nm : List UInt8) (acc : FuncId) (b : Nat) : Fld := ⟨nm, 189, 190, #[bP b], #[bP b], [(⟨b, 0, none⟩, accV acc)]⟩
theorem fldS_Num {i : Nat} (nm : List UInt8) {acc : FuncId} (b : Nat) (ha : Acc acc i) : FldS i .num (mkNum nm acc b) where
 entF := enters_of Tryz.func189 (by kernel_rfl) rfl
 entG := enters_of Tryz.func190 (by kernel_rfl) rfl
 writes lo w cells c v ok hb hc hv hk hw := by
  cases v with
  | num n =>
   have hv' : c = .int .i64 n := hv
   rw [hv'] at hc
   exact wnum_any acc i b cells n w ha (hb.get (List.mem_singleton.2 rfl)) hc hw.1
  | _ => cases hk
 reads lo w g ge r cells hb hr hl hy h3 hge hne hi := (rnum_any acc i b g ge r cells w ha (hb.get (List.mem_singleton.2 rfl)) hr hl hy h3 hge hne hi).mono fun e w' h => ⟨h.1, h.2.mono fun W c h => h⟩
def mkTxt (nm : List UInt8) (acc : FuncId) (b : Nat) : Fld := ⟨nm, 191, 192, #[bP b], #[bP b], [(⟨b, 0, none⟩, accV acc)]⟩
theorem fldS_Txt {i : Nat} (nm : List UInt8) {acc : FuncId} (b : Nat) (ha : Acc acc i) : FldS i .txt (mkTxt nm acc b) where
 entF := enters_of Tryz.func191 (by kernel_rfl) rfl
 entG := enters_of Tryz.func192 (by kernel_rfl) rfl
 writes lo w cells c v ok hb hc hv hk hw := by
  cases v with
  | txt s =>
   have hv' : c = .string (bstr s) := hv
   rw [hv'] at hc
   exact wtxt_any acc i b cells s w ha (hb.get (List.mem_singleton.2 rfl)) hc hw.2.2
  | _ => cases hk
 reads lo w g ge r cells hb hr hl hy h3 hge hne hi := (rtxt_any acc i b g ge r cells w ha (hb.get (List.mem_singleton.2 rfl)) hr hl hy h3 hge hne hi).mono fun e w' h => ⟨h.1, h.2.mono fun W c h => h⟩
def mkNums (nm : List UInt8) (acc : FuncId) (b : Nat) : Fld := ⟨nm, 212, 213, #[bP b], #[bP b], [(⟨b, 0, none⟩, accV acc)]⟩
theorem fldS_Nums {i : Nat} (nm : List UInt8) {acc : FuncId} (b : Nat) (ha : Acc acc i) : FldS i .nums (mkNums nm acc b) where
 entF := enters_of Tryz.func212 (by kernel_rfl) rfl
 entG := enters_of Tryz.func213 (by kernel_rfl) rfl
 writes lo w cells c v ok hb hc hv hk hw := by
  cases v with
  | nums l =>
   obtain ⟨A, cap, rfl, hR, _⟩ := hv
   rw [Nat.mul_one] at hR
   exact wnums_any acc i b cells A cap l w ha (hb.get (List.mem_singleton.2 rfl)) hc hR hw.1 hw.2.2 hw.2.1
  | _ => cases hk
 reads lo w g ge r cells hb hr hl hy h3 hge hne hi := (rnums_any acc i b g ge r cells w ha (hb.get (List.mem_singleton.2 rfl)) hr hl hy h3 hge hne hi).mono fun e w' h => ⟨h.1, h.2.mono fun W c h => SlcOf.of_own h⟩
def mkTxts (nm : List UInt8) (acc : FuncId) (b : Nat) : Fld := ⟨nm, 214, 216, #[bP b], #[bP b], [(⟨b, 0, none⟩, accV acc)]⟩
theorem fldS_Txts {i : Nat} (nm : List UInt8) {acc : FuncId} (b : Nat) (ha : Acc acc i) : FldS i .txts (mkTxts nm acc b) where
 entF := enters_of Tryz.func214 (by kernel_rfl) rfl
 entG := enters_of Tryz.func216 (by kernel_rfl) rfl
 writes lo w cells c v ok hb hc hv hk hw := by
  cases v with
  | txts l =>
   obtain ⟨A, cap, rfl, hR, _⟩ := hv
   rw [Nat.mul_one] at hR
   exact wtxts_any acc i b cells A cap l w ha (hb.get (List.mem_singleton.2 rfl)) hc hR hw.2.2.2 hw.2.2.1 hw.2.1
  | _ => cases hk
 reads lo w g ge r cells hb hr hl hy h3 hge hne hi := (rtxts_any acc i b g ge r cells w ha (hb.get (List.mem_singleton.2 rfl)) hr hl hy h3 hge hne hi).mono fun e w' h => ⟨h.1, h.2.mono fun W c h => SlcOf.of_own h⟩
def mkFlg (nm : List UInt8) (acc : FuncId) (b : Nat) : Fld := ⟨nm, 210, 211, #[bP (b + 1), bP b], #[bP (b + 1)], [(⟨b + 1, 0, none⟩, accV acc), (⟨b, 0, none⟩, .string (bstr nm))]⟩
theorem fldS_Flg {i : Nat} (nm : List UInt8) {acc : FuncId} (b : Nat) (ha : Acc acc i) : FldS i .flg (mkFlg nm acc b) where
 entF := enters_of Tryz.func210 (by kernel_rfl) rfl
 entG := enters_of Tryz.func211 (by kernel_rfl) rfl
 writes lo w cells c v ok hb hc hv hk hw := by
  cases v with
  | flg x =>
   have hv' : c = .bool x := hv
   rw [hv'] at hc
   refine (wflag_any acc i (b + 1) b (bstr nm) cells x w ha (hb.get (List.mem_cons_self ..)) (hb.get (List.mem_cons_of_mem _ (List.mem_singleton.2 rfl))) hc).mono ?_
   rintro e w' ⟨rfl, h⟩
   exact ⟨by cases x <;> rfl, h⟩
  | _ => cases hk
 reads lo w g ge r cells hb hr hl hy h3 hge hne hi := (rflag_any acc i (b + 1) g ge r cells w ha (hb.get (List.mem_cons_self ..)) hr hge hi).mono fun e w' h => ⟨h.1, h.2.mono fun W c h => h⟩
def mkKind : Fld := ⟨[107, 105, 110, 100], 208, 209, #[], #[], []⟩
theorem fldS_Kind : FldS 3 .num mkKind where
 entF := enters_of Tryz.func208 (by kernel_rfl) rfl
 entG := enters_of Tryz.func209 (by kernel_rfl) rfl
 writes lo w cells c v ok hb hc hv hk hw := by
  cases v with
  | num n =>
   have hv' : c = .int .i64 n := hv
   rw [hv'] at hc
   exact wkind_any cells n w hc hw.1
  | _ => cases hk
 reads lo w g ge r cells hb hr hl hy h3 hge hne hi := (rkind_any g ge r cells w hr hl hy h3 hge hne hi).mono fun e w' h => ⟨h.1, h.2.mono fun W c h => h⟩
def mkUsrs : Fld := ⟨[117, 115, 101, 114, 115], 218, 221, #[], #[], []⟩
theorem fldS_Usrs : FldS 17 .usrs mkUsrs where
 entF := enters_of Tryz.func218 (by kernel_rfl) rfl
 entG := enters_of Tryz.func221 (by kernel_rfl) rfl
 writes lo w cells c v ok hb hc hv hk hw := by
  cases v with
  | usrs l =>
   obtain ⟨A, cap, rfl, hR, _⟩ := hv
   exact wusrs_any cells A cap l w hc hR (fun x hx => ⟨hw.2.2.2 x hx, hw.1 x hx⟩) hw.2.2.1 hw.2.1
  | _ => cases hk
 reads lo w g ge r cells hb hr hl hy h3 hge hne hi := (rusrs_any g ge r cells w hr hl hy h3 hge hne hi).mono fun e w' h => ⟨h.1, h.2.mono fun W c h => SlcOf.of_own h⟩
def mkKnds : Fld := ⟨[107, 105, 110, 100, 115], 224, 227, #[], #[], []⟩
theorem fldS_Knds : FldS 18 .knds mkKnds where
 entF := enters_of Tryz.func224 (by kernel_rfl) rfl
 entG := enters_of Tryz.func227 (by kernel_rfl) rfl
 writes lo w cells c v ok hb hc hv hk hw := by
  cases v with
  | knds l =>
   obtain ⟨A, cap, rfl, hR, _⟩ := hv
   exact wknds_any cells A cap l w hc hR hw.1 hw.2.2 hw.2.1
  | _ => cases hk
 reads lo w g ge r cells hb hr hl hy h3 hge hne hi := (rknds_any g ge r cells w hr hl hy h3 hge hne hi).mono fun e w' h => ⟨h.1, h.2.mono fun W c h => SlcOf.of_own h⟩
end Go.Proofs.YteadlcncnhbmjaaGreatDoor
/- The text Anc. -/
namespace Go.Proofs.YteadlcncnhbmjaaGreatDoor
open Go.RowKit Go.Lib
set_option linter.unusedVariables false
def FldAt (i : Nat) (f : Fld) : Prop := ∃ nk, Ar.NK[i]? = some nk ∧ f.nm = nk.1 ∧ FldS i nk.2 f
def AllF (base : Nat) (w : World) : Nat → List Fld → Prop
 | _, [] => True
 | i, f :: r => (FldAt i f ∧ f.Boxed base w) ∧ AllF base w (i + 1) r
theorem AllF.at {base : Nat} {w : World} : ∀ {l : List Fld} {i j : Nat} {f : Fld}, AllF base w i l → l[j]? = some f → FldAt (i + j) f ∧ f.Boxed base w
 | [], _, _, _, _, h => by simp at h
 | a :: l, i, 0, f, h, e => by
  simp at e
  subst e
  exact h.1
 | a :: l, i, j + 1, f, h, e => by
  have := AllF.at h.2 (j := j) (by simpa using e)
  rwa [show i + 1 + j = i + (j + 1) from by omega] at this
theorem AllF.mono {base base' : Nat} {w w' : World} (hb : base' ≤ base) (hk : ∀ a v, w.cell? a = some v → w'.cell? a = some v) : ∀ {l : List Fld} {i : Nat}, AllF base w i l → AllF base' w' i l
 | [], _, _ => trivial
 | f :: l, i, h => ⟨⟨h.1.1, fun p hp => ⟨Nat.le_trans hb (h.1.2 p hp).1, hk _ _ (h.1.2 p hp).2⟩⟩, AllF.mono hb hk h.2⟩
theorem AllF.append {base : Nat} {w : World} : ∀ {l m : List Fld} {i : Nat}, AllF base w i l → AllF base w (i + l.length) m → AllF base w i (l ++ m)
 | [], _, _, _, h => h
 | f :: l, m, i, h, h2 => ⟨h.1, AllF.append h.2 (by rwa [show i + 1 + l.length = i + (f :: l).length from by rw [List.length_cons]; omega])⟩
theorem boxed1 {base b : Nat} {w : World} {v : Value} {nm : List UInt8} {F G : FuncId} {cf cg : Array Value} (hb : base ≤ b) (h : w.cell? ⟨b, 0, none⟩ = some v) : (⟨nm, F, G, cf, cg, [(⟨b, 0, none⟩, v)]⟩ : Fld).Boxed base w := fun p hp => by
 rw [List.mem_singleton.1 hp]
 exact ⟨hb, h⟩
theorem boxed2 {base b c : Nat} {w : World} {v u : Value} {nm : List UInt8} {F G : FuncId} {cf cg : Array Value} (hb : base ≤ b) (h : w.cell? ⟨b, 0, none⟩ = some v) (hc : base ≤ c) (k : w.cell? ⟨c, 0, none⟩ = some u) : (⟨nm, F, G, cf, cg, [(⟨b, 0, none⟩, v), (⟨c, 0, none⟩, u)]⟩ : Fld).Boxed base w := fun p hp => by
 rcases List.mem_cons.1 hp with rfl | hp
 ·exact ⟨hb, h⟩
 ·rw [List.mem_singleton.1 hp]
  exact ⟨hc, k⟩
theorem boxed0 {base : Nat} {w : World} {nm : List UInt8} {F G : FuncId} {cf cg : Array Value} : (⟨nm, F, G, cf, cg, []⟩ : Fld).Boxed base w := fun p hp => by cases hp
theorem Fld.one (f : Fld) : ∀ u ∈ f.vals, u.oneCell' = true := by
 intro u hu
 unfold Fld.vals at hu
 simp only [List.mem_cons, List.not_mem_nil, or_false] at hu
 rcases hu with rfl | rfl | rfl <;> rfl
theorem vals_len : ∀ l : List Fld, (l.flatMap Fld.vals).length = l.length * 3
 | [] => rfl
 | f :: l => by
  rw [List.flatMap_cons, List.length_append, vals_len l, List.length_cons]
  show 3 + _ = _
  omega
theorem vals_one (l : List Fld) : ∀ u ∈ l.flatMap Fld.vals, u.oneCell' = true := by
 intro u hu
 obtain ⟨f, _, h⟩ := List.mem_flatMap.1 hu
 exact f.one u h
def FRes (w : World) (i n : Nat) (e : Ending) (w' : World) : Prop :=
 ∃ (g : Nat) (L : List Fld), e = .returned (.slice (some ⟨g, 0, none⟩) n n) ∧ L.length = n ∧ w.heap.size ≤ g ∧ Rd w' (some ⟨g, 0, none⟩) (n * 3) (L.flatMap Fld.vals) ∧ AllF w.heap.size w' i L ∧ Below w.heap.size w w'
theorem head_any (w0 : World) : Calls Tryz.prog 103 #[] w0 (FRes w0 0 10) := by
 go_enter Tryz.func103, Tryz.ntmps103
 go_wp2_with fail
 refine (cnum_any _ _ _).mono ?_
 rintro e w1 ⟨rfl, hb, hx⟩
 have B1 := hid hb
 have X1 := hid hx
 clear hb hx
 go_wp2_with fail
 refine (ctxt_any _ _ _).mono ?_
 rintro e w2 ⟨rfl, hb, hx⟩
 have B2 := hid hb
 have X2 := hid hx
 clear hb hx
 go_wp2_with fail
 refine (ctxt_any _ _ _).mono ?_
 rintro e w3 ⟨rfl, hb, hx⟩
 have B3 := hid hb
 have X3 := hid hx
 clear hb hx
 go_wp2_with fail
 refine (ckind_any _).mono ?_
 rintro e w4 ⟨rfl, hb⟩
 have B4 := hid hb
 clear hb
 go_wp2_with fail
 refine (cflag_any _ _ _).mono ?_
 rintro e w5 ⟨rfl, hb, hx⟩
 have B5 := hid hb
 have X5 := hid hx
 clear hb hx
 go_wp2_with fail
 refine (ctxt_any _ _ _).mono ?_
 rintro e w6 ⟨rfl, hb, hx⟩
 have B6 := hid hb
 have X6 := hid hx
 clear hb hx
 go_wp2_with fail
 refine (cnum_any _ _ _).mono ?_
 rintro e w7 ⟨rfl, hb, hx⟩
 have B7 := hid hb
 have X7 := hid hx
 clear hb hx
 go_wp2_with fail
 refine (cnum_any _ _ _).mono ?_
 rintro e w8 ⟨rfl, hb, hx⟩
 have B8 := hid hb
 have X8 := hid hx
 clear hb hx
 go_wp2_with fail
 refine (cnums_any _ _ _).mono ?_
 rintro e w9 ⟨rfl, hb, hx⟩
 have B9 := hid hb
 have X9 := hid hx
 clear hb hx
 go_wp2_with fail
 refine (cnums_any _ _ _).mono ?_
 rintro e w10 ⟨rfl, hb, hx⟩
 have B10 := hid hb
 have X10 := hid hx
 clear hb hx
 go_wp2_with fail
 have E0 : Hid (w0.heap.size ≤ w0.heap.size) := hid (Nat.le_refl _)
 have E1 : Hid (w0.heap.size ≤ w1.heap.size) := hid (Nat.le_trans E0.out B1.out.size)
 have E2 : Hid (w0.heap.size ≤ w2.heap.size) := hid (Nat.le_trans E1.out B2.out.size)
 have E3 : Hid (w0.heap.size ≤ w3.heap.size) := hid (Nat.le_trans E2.out B3.out.size)
 have E4 : Hid (w0.heap.size ≤ w4.heap.size) := hid (Nat.le_trans E3.out B4.out.size)
 have E5 : Hid (w0.heap.size ≤ w5.heap.size) := hid (Nat.le_trans E4.out B5.out.size)
 have E6 : Hid (w0.heap.size ≤ w6.heap.size) := hid (Nat.le_trans E5.out B6.out.size)
 have E7 : Hid (w0.heap.size ≤ w7.heap.size) := hid (Nat.le_trans E6.out B7.out.size)
 have E8 : Hid (w0.heap.size ≤ w8.heap.size) := hid (Nat.le_trans E7.out B8.out.size)
 have E9 : Hid (w0.heap.size ≤ w9.heap.size) := hid (Nat.le_trans E8.out B9.out.size)
 have E10 : Hid (w0.heap.size ≤ w10.heap.size) := hid (Nat.le_trans E9.out B10.out.size)
 have HG : Hid (Blk (w10.alloc (.cells (List.flatMap Fld.vals [mkNum [105, 100] 160 w0.heap.size, mkTxt [114, 111, 111, 109] 161 w1.heap.size, mkTxt [115, 101, 110, 100, 101, 114] 162 w2.heap.size, mkKind, mkFlg [115, 116, 97, 116, 101] 165 w4.heap.size, mkTxt [107, 101, 121] 166 w5.heap.size, mkNum [116, 105, 109, 101] 167 w6.heap.size, mkNum [100, 101, 112, 116, 104] 168 w7.heap.size, mkNums [112, 114, 101, 118] 170 w8.heap.size, mkNums [97, 117, 116, 104] 171 w9.heap.size]).toArray 82)) w10.heap.size 82 (List.flatMap Fld.vals [mkNum [105, 100] 160 w0.heap.size, mkTxt [114, 111, 111, 109] 161 w1.heap.size, mkTxt [115, 101, 110, 100, 101, 114] 162 w2.heap.size, mkKind, mkFlg [115, 116, 97, 116, 101] 165 w4.heap.size, mkTxt [107, 101, 121] 166 w5.heap.size, mkNum [116, 105, 109, 101] 167 w6.heap.size, mkNum [100, 101, 112, 116, 104] 168 w7.heap.size, mkNums [112, 114, 101, 118] 170 w8.heap.size, mkNums [97, 117, 116, 104] 171 w9.heap.size]).toArray) := hid (Blk.new _ _ _)
 have D10 : Hid (Below w10.heap.size w10 (w10.alloc (.cells (List.flatMap Fld.vals [mkNum [105, 100] 160 w0.heap.size, mkTxt [114, 111, 111, 109] 161 w1.heap.size, mkTxt [115, 101, 110, 100, 101, 114] 162 w2.heap.size, mkKind, mkFlg [115, 116, 97, 116, 101] 165 w4.heap.size, mkTxt [107, 101, 121] 166 w5.heap.size, mkNum [116, 105, 109, 101] 167 w6.heap.size, mkNum [100, 101, 112, 116, 104] 168 w7.heap.size, mkNums [112, 114, 101, 118] 170 w8.heap.size, mkNums [97, 117, 116, 104] 171 w9.heap.size]).toArray 82))) := hid ((Below.refl _ _).alloc (Nat.le_refl _) _)
 have D9 := hid (B10.out.trans (D10.out.mono B10.out.size))
 have D8 := hid (B9.out.trans (D9.out.mono B9.out.size))
 have D7 := hid (B8.out.trans (D8.out.mono B8.out.size))
 have D6 := hid (B7.out.trans (D7.out.mono B7.out.size))
 have D5 := hid (B6.out.trans (D6.out.mono B6.out.size))
 have D4 := hid (B5.out.trans (D5.out.mono B5.out.size))
 have D3 := hid (B4.out.trans (D4.out.mono B4.out.size))
 have D2 := hid (B3.out.trans (D3.out.mono B3.out.size))
 have D1 := hid (B2.out.trans (D2.out.mono B2.out.size))
 have D0 := hid (B1.out.trans (D1.out.mono B1.out.size))
 go_ret
 exact ⟨w10.heap.size, [mkNum [105, 100] 160 w0.heap.size, mkTxt [114, 111, 111, 109] 161 w1.heap.size, mkTxt [115, 101, 110, 100, 101, 114] 162 w2.heap.size, mkKind, mkFlg [115, 116, 97, 116, 101] 165 w4.heap.size, mkTxt [107, 101, 121] 166 w5.heap.size, mkNum [116, 105, 109, 101] 167 w6.heap.size, mkNum [100, 101, 112, 116, 104] 168 w7.heap.size, mkNums [112, 114, 101, 118] 170 w8.heap.size, mkNums [97, 117, 116, 104] 171 w9.heap.size], rfl, rfl, E10.out, Rd.of_blk HG.out, ⟨⟨⟨_, rfl, rfl, fldS_Num _ _ acc0⟩, boxed1 E0.out (keep_below X1.out D1.out)⟩, ⟨⟨⟨_, rfl, rfl, fldS_Txt _ _ acc1⟩, boxed1 E1.out (keep_below X2.out D2.out)⟩, ⟨⟨⟨_, rfl, rfl, fldS_Txt _ _ acc2⟩, boxed1 E2.out (keep_below X3.out D3.out)⟩, ⟨⟨⟨_, rfl, rfl, fldS_Kind⟩, boxed0⟩, ⟨⟨⟨_, rfl, rfl, fldS_Flg _ _ acc4⟩, boxed2 (by have := E4.out; omega) (keep_below X5.out.1 D5.out) E4.out (keep_below X5.out.2 D5.out)⟩, ⟨⟨⟨_, rfl, rfl, fldS_Txt _ _ acc5⟩, boxed1 E5.out (keep_below X6.out D6.out)⟩, ⟨⟨⟨_, rfl, rfl, fldS_Num _ _ acc6⟩, boxed1 E6.out (keep_below X7.out D7.out)⟩, ⟨⟨⟨_, rfl, rfl, fldS_Num _ _ acc7⟩, boxed1 E7.out (keep_below X8.out D8.out)⟩, ⟨⟨⟨_, rfl, rfl, fldS_Nums _ _ acc8⟩, boxed1 E8.out (keep_below X9.out D9.out)⟩, ⟨⟨⟨_, rfl, rfl, fldS_Nums _ _ acc9⟩, boxed1 E9.out (keep_below X10.out D10.out)⟩, trivial⟩⟩⟩⟩⟩⟩⟩⟩⟩⟩, D0.out⟩
theorem content_any (w0 : World) : Calls Tryz.prog 104 #[] w0 (FRes w0 10 16) := by
 go_enter Tryz.func104, Tryz.ntmps104
 go_wp2_with fail
 refine (ctxt_any _ _ _).mono ?_
 rintro e w1 ⟨rfl, hb, hx⟩
 have B1 := hid hb
 have X1 := hid hx
 clear hb hx
 go_wp2_with fail
 refine (cnum_any _ _ _).mono ?_
 rintro e w2 ⟨rfl, hb, hx⟩
 have B2 := hid hb
 have X2 := hid hx
 clear hb hx
 go_wp2_with fail
 refine (cnum_any _ _ _).mono ?_
 rintro e w3 ⟨rfl, hb, hx⟩
 have B3 := hid hb
 have X3 := hid hx
 clear hb hx
 go_wp2_with fail
 refine (cflag_any _ _ _).mono ?_
 rintro e w4 ⟨rfl, hb, hx⟩
 have B4 := hid hb
 have X4 := hid hx
 clear hb hx
 go_wp2_with fail
 refine (ctxt_any _ _ _).mono ?_
 rintro e w5 ⟨rfl, hb, hx⟩
 have B5 := hid hb
 have X5 := hid hx
 clear hb hx
 go_wp2_with fail
 refine (ctxts_any _ _ _).mono ?_
 rintro e w6 ⟨rfl, hb, hx⟩
 have B6 := hid hb
 have X6 := hid hx
 clear hb hx
 go_wp2_with fail
 refine (ctxts_any _ _ _).mono ?_
 rintro e w7 ⟨rfl, hb, hx⟩
 have B7 := hid hb
 have X7 := hid hx
 clear hb hx
 go_wp2_with fail
 refine (cusrs_any _).mono ?_
 rintro e w8 ⟨rfl, hb⟩
 have B8 := hid hb
 clear hb
 go_wp2_with fail
 refine (cknds_any _).mono ?_
 rintro e w9 ⟨rfl, hb⟩
 have B9 := hid hb
 clear hb
 go_wp2_with fail
 refine (cnum_any _ _ _).mono ?_
 rintro e w10 ⟨rfl, hb, hx⟩
 have B10 := hid hb
 have X10 := hid hx
 clear hb hx
 go_wp2_with fail
 refine (cnum_any _ _ _).mono ?_
 rintro e w11 ⟨rfl, hb, hx⟩
 have B11 := hid hb
 have X11 := hid hx
 clear hb hx
 go_wp2_with fail
 refine (cnum_any _ _ _).mono ?_
 rintro e w12 ⟨rfl, hb, hx⟩
 have B12 := hid hb
 have X12 := hid hx
 clear hb hx
 go_wp2_with fail
 refine (cnum_any _ _ _).mono ?_
 rintro e w13 ⟨rfl, hb, hx⟩
 have B13 := hid hb
 have X13 := hid hx
 clear hb hx
 go_wp2_with fail
 refine (cnum_any _ _ _).mono ?_
 rintro e w14 ⟨rfl, hb, hx⟩
 have B14 := hid hb
 have X14 := hid hx
 clear hb hx
 go_wp2_with fail
 refine (cnum_any _ _ _).mono ?_
 rintro e w15 ⟨rfl, hb, hx⟩
 have B15 := hid hb
 have X15 := hid hx
 clear hb hx
 go_wp2_with fail
 refine (cnum_any _ _ _).mono ?_
 rintro e w16 ⟨rfl, hb, hx⟩
 have B16 := hid hb
 have X16 := hid hx
 clear hb hx
 go_wp2_with fail
 have E0 : Hid (w0.heap.size ≤ w0.heap.size) := hid (Nat.le_refl _)
 have E1 : Hid (w0.heap.size ≤ w1.heap.size) := hid (Nat.le_trans E0.out B1.out.size)
 have E2 : Hid (w0.heap.size ≤ w2.heap.size) := hid (Nat.le_trans E1.out B2.out.size)
 have E3 : Hid (w0.heap.size ≤ w3.heap.size) := hid (Nat.le_trans E2.out B3.out.size)
 have E4 : Hid (w0.heap.size ≤ w4.heap.size) := hid (Nat.le_trans E3.out B4.out.size)
 have E5 : Hid (w0.heap.size ≤ w5.heap.size) := hid (Nat.le_trans E4.out B5.out.size)
 have E6 : Hid (w0.heap.size ≤ w6.heap.size) := hid (Nat.le_trans E5.out B6.out.size)
 have E7 : Hid (w0.heap.size ≤ w7.heap.size) := hid (Nat.le_trans E6.out B7.out.size)
 have E8 : Hid (w0.heap.size ≤ w8.heap.size) := hid (Nat.le_trans E7.out B8.out.size)
 have E9 : Hid (w0.heap.size ≤ w9.heap.size) := hid (Nat.le_trans E8.out B9.out.size)
 have E10 : Hid (w0.heap.size ≤ w10.heap.size) := hid (Nat.le_trans E9.out B10.out.size)
 have E11 : Hid (w0.heap.size ≤ w11.heap.size) := hid (Nat.le_trans E10.out B11.out.size)
 have E12 : Hid (w0.heap.size ≤ w12.heap.size) := hid (Nat.le_trans E11.out B12.out.size)
 have E13 : Hid (w0.heap.size ≤ w13.heap.size) := hid (Nat.le_trans E12.out B13.out.size)
 have E14 : Hid (w0.heap.size ≤ w14.heap.size) := hid (Nat.le_trans E13.out B14.out.size)
 have E15 : Hid (w0.heap.size ≤ w15.heap.size) := hid (Nat.le_trans E14.out B15.out.size)
 have E16 : Hid (w0.heap.size ≤ w16.heap.size) := hid (Nat.le_trans E15.out B16.out.size)
 have HG : Hid (Blk (w16.alloc (.cells (List.flatMap Fld.vals [mkTxt [116, 101, 120, 116] 172 w0.heap.size, mkNum [110] 173 w1.heap.size, mkNum [116, 97, 114, 103, 101, 116] 174 w2.heap.size, mkFlg [116, 104, 114, 101, 97, 100] 175 w3.heap.size, mkTxt [118, 105, 97] 176 w4.heap.size, mkTxts [97, 108, 108, 111, 119] 178 w5.heap.size, mkTxts [100, 101, 110, 121] 179 w6.heap.size, mkUsrs, mkKnds, mkNum [117, 115, 101, 114] 182 w9.heap.size, mkNum [109, 101, 115, 115, 97, 103, 101] 183 w10.heap.size, mkNum [115, 116, 97, 116, 101, 115] 184 w11.heap.size, mkNum [105, 110, 118, 105, 116, 101] 185 w12.heap.size, mkNum [107, 105, 99, 107] 186 w13.heap.size, mkNum [98, 97, 110] 187 w14.heap.size, mkNum [114, 101, 100, 97, 99, 116] 188 w15.heap.size]).toArray 82)) w16.heap.size 82 (List.flatMap Fld.vals [mkTxt [116, 101, 120, 116] 172 w0.heap.size, mkNum [110] 173 w1.heap.size, mkNum [116, 97, 114, 103, 101, 116] 174 w2.heap.size, mkFlg [116, 104, 114, 101, 97, 100] 175 w3.heap.size, mkTxt [118, 105, 97] 176 w4.heap.size, mkTxts [97, 108, 108, 111, 119] 178 w5.heap.size, mkTxts [100, 101, 110, 121] 179 w6.heap.size, mkUsrs, mkKnds, mkNum [117, 115, 101, 114] 182 w9.heap.size, mkNum [109, 101, 115, 115, 97, 103, 101] 183 w10.heap.size, mkNum [115, 116, 97, 116, 101, 115] 184 w11.heap.size, mkNum [105, 110, 118, 105, 116, 101] 185 w12.heap.size, mkNum [107, 105, 99, 107] 186 w13.heap.size, mkNum [98, 97, 110] 187 w14.heap.size, mkNum [114, 101, 100, 97, 99, 116] 188 w15.heap.size]).toArray) := hid (Blk.new _ _ _)
 have D16 : Hid (Below w16.heap.size w16 (w16.alloc (.cells (List.flatMap Fld.vals [mkTxt [116, 101, 120, 116] 172 w0.heap.size, mkNum [110] 173 w1.heap.size, mkNum [116, 97, 114, 103, 101, 116] 174 w2.heap.size, mkFlg [116, 104, 114, 101, 97, 100] 175 w3.heap.size, mkTxt [118, 105, 97] 176 w4.heap.size, mkTxts [97, 108, 108, 111, 119] 178 w5.heap.size, mkTxts [100, 101, 110, 121] 179 w6.heap.size, mkUsrs, mkKnds, mkNum [117, 115, 101, 114] 182 w9.heap.size, mkNum [109, 101, 115, 115, 97, 103, 101] 183 w10.heap.size, mkNum [115, 116, 97, 116, 101, 115] 184 w11.heap.size, mkNum [105, 110, 118, 105, 116, 101] 185 w12.heap.size, mkNum [107, 105, 99, 107] 186 w13.heap.size, mkNum [98, 97, 110] 187 w14.heap.size, mkNum [114, 101, 100, 97, 99, 116] 188 w15.heap.size]).toArray 82))) := hid ((Below.refl _ _).alloc (Nat.le_refl _) _)
 have D15 := hid (B16.out.trans (D16.out.mono B16.out.size))
 have D14 := hid (B15.out.trans (D15.out.mono B15.out.size))
 have D13 := hid (B14.out.trans (D14.out.mono B14.out.size))
 have D12 := hid (B13.out.trans (D13.out.mono B13.out.size))
 have D11 := hid (B12.out.trans (D12.out.mono B12.out.size))
 have D10 := hid (B11.out.trans (D11.out.mono B11.out.size))
 have D9 := hid (B10.out.trans (D10.out.mono B10.out.size))
 have D8 := hid (B9.out.trans (D9.out.mono B9.out.size))
 have D7 := hid (B8.out.trans (D8.out.mono B8.out.size))
 have D6 := hid (B7.out.trans (D7.out.mono B7.out.size))
 have D5 := hid (B6.out.trans (D6.out.mono B6.out.size))
 have D4 := hid (B5.out.trans (D5.out.mono B5.out.size))
 have D3 := hid (B4.out.trans (D4.out.mono B4.out.size))
 have D2 := hid (B3.out.trans (D3.out.mono B3.out.size))
 have D1 := hid (B2.out.trans (D2.out.mono B2.out.size))
 have D0 := hid (B1.out.trans (D1.out.mono B1.out.size))
 go_ret
 exact ⟨w16.heap.size, [mkTxt [116, 101, 120, 116] 172 w0.heap.size, mkNum [110] 173 w1.heap.size, mkNum [116, 97, 114, 103, 101, 116] 174 w2.heap.size, mkFlg [116, 104, 114, 101, 97, 100] 175 w3.heap.size, mkTxt [118, 105, 97] 176 w4.heap.size, mkTxts [97, 108, 108, 111, 119] 178 w5.heap.size, mkTxts [100, 101, 110, 121] 179 w6.heap.size, mkUsrs, mkKnds, mkNum [117, 115, 101, 114] 182 w9.heap.size, mkNum [109, 101, 115, 115, 97, 103, 101] 183 w10.heap.size, mkNum [115, 116, 97, 116, 101, 115] 184 w11.heap.size, mkNum [105, 110, 118, 105, 116, 101] 185 w12.heap.size, mkNum [107, 105, 99, 107] 186 w13.heap.size, mkNum [98, 97, 110] 187 w14.heap.size, mkNum [114, 101, 100, 97, 99, 116] 188 w15.heap.size], rfl, rfl, E16.out, Rd.of_blk HG.out, ⟨⟨⟨_, rfl, rfl, fldS_Txt _ _ acc10⟩, boxed1 E0.out (keep_below X1.out D1.out)⟩, ⟨⟨⟨_, rfl, rfl, fldS_Num _ _ acc11⟩, boxed1 E1.out (keep_below X2.out D2.out)⟩, ⟨⟨⟨_, rfl, rfl, fldS_Num _ _ acc12⟩, boxed1 E2.out (keep_below X3.out D3.out)⟩, ⟨⟨⟨_, rfl, rfl, fldS_Flg _ _ acc13⟩, boxed2 (by have := E3.out; omega) (keep_below X4.out.1 D4.out) E3.out (keep_below X4.out.2 D4.out)⟩, ⟨⟨⟨_, rfl, rfl, fldS_Txt _ _ acc14⟩, boxed1 E4.out (keep_below X5.out D5.out)⟩, ⟨⟨⟨_, rfl, rfl, fldS_Txts _ _ acc15⟩, boxed1 E5.out (keep_below X6.out D6.out)⟩, ⟨⟨⟨_, rfl, rfl, fldS_Txts _ _ acc16⟩, boxed1 E6.out (keep_below X7.out D7.out)⟩, ⟨⟨⟨_, rfl, rfl, fldS_Usrs⟩, boxed0⟩, ⟨⟨⟨_, rfl, rfl, fldS_Knds⟩, boxed0⟩, ⟨⟨⟨_, rfl, rfl, fldS_Num _ _ acc19⟩, boxed1 E9.out (keep_below X10.out D10.out)⟩, ⟨⟨⟨_, rfl, rfl, fldS_Num _ _ acc20⟩, boxed1 E10.out (keep_below X11.out D11.out)⟩, ⟨⟨⟨_, rfl, rfl, fldS_Num _ _ acc21⟩, boxed1 E11.out (keep_below X12.out D12.out)⟩, ⟨⟨⟨_, rfl, rfl, fldS_Num _ _ acc22⟩, boxed1 E12.out (keep_below X13.out D13.out)⟩, ⟨⟨⟨_, rfl, rfl, fldS_Num _ _ acc23⟩, boxed1 E13.out (keep_below X14.out D14.out)⟩, ⟨⟨⟨_, rfl, rfl, fldS_Num _ _ acc24⟩, boxed1 E14.out (keep_below X15.out D15.out)⟩, ⟨⟨⟨_, rfl, rfl, fldS_Num _ _ acc25⟩, boxed1 E15.out (keep_below X16.out D16.out)⟩, trivial⟩⟩⟩⟩⟩⟩⟩⟩⟩⟩⟩⟩⟩⟩⟩⟩, D0.out⟩
end Go.Proofs.YteadlcncnhbmjaaGreatDoor
/- The text And. -/
namespace Go.Proofs.YteadlcncnhbmjaaGreatDoor
open Go.RowKit Go.Lib
set_option linter.unusedVariables false
def Fields (w : World) (e : Ending) (w' : World) : Prop :=
 ∃ (A : Option Addr) (cap : Nat) (L : List Fld), e = .returned (.slice A 29 cap) ∧ L.length = 29 ∧ w'.ownsRow w.heap.size 82 3 (.slice A 29 cap) 29 (L.flatMap Fld.vals) ∧ AllF w.heap.size w' 0 L ∧ Below w.heap.size w w'
theorem src_ok {w : World} {g n : Nat} {L : List Fld} (h : Rd w (some ⟨g, 0, none⟩) (n * 3) (L.flatMap Fld.vals)) : (⟨g, n, n, L.flatMap Fld.vals⟩ : Src).Ok w := ⟨h, vals_one L⟩
theorem fields_any (w0 : World) : Calls Tryz.prog 47 #[] w0 (Fields w0) := by
 go_enter Tryz.func47, Tryz.ntmps47
 go_wp2_with fail
 refine (head_any _).mono ?_
 rintro e w1 ⟨g1, L1, rfl, hl1, hg1, hr1, ha1, hb⟩
 have B1 := hid hb
 have R1 := hid hr1
 have A1 := hid ha1
 clear hb hr1 ha1
 go_wp2_with fail
 refine (content_any _).mono ?_
 rintro e w2 ⟨g2, L2, rfl, hl2, hg2, hr2, ha2, hb⟩
 have B2 := hid hb
 have R2 := hid hr2
 have A2 := hid ha2
 clear hb hr2 ha2
 go_wp2_with fail
 refine (cnum_any _ _ _).mono ?_
 rintro e w3 ⟨rfl, hb, hx⟩
 have B3 := hid hb
 have X3 := hid hx
 clear hb hx
 go_wp2_with fail
 refine (ctxt_any _ _ _).mono ?_
 rintro e w4 ⟨rfl, hb, hx⟩
 have B4 := hid hb
 have X4 := hid hx
 clear hb hx
 go_wp2_with fail
 refine (cnum_any _ _ _).mono ?_
 rintro e w5 ⟨rfl, hb, hx⟩
 have B5 := hid hb
 have X5 := hid hx
 clear hb hx
 obtain ⟨L3, hL3⟩ : ∃ L3, L3 = [mkNum [104, 97, 115, 104] 106 w2.heap.size, mkTxt [115, 101, 114, 118, 101, 114] 108 w3.heap.size, mkNum [115, 117, 109] 109 w4.heap.size] := ⟨_, rfl⟩
 obtain ⟨l, hl⟩ : ∃ l : List Src, l = [⟨g1, 10, 10, L1.flatMap Fld.vals⟩, ⟨g2, 16, 16, L2.flatMap Fld.vals⟩, ⟨w5.heap.size, 3, 3, L3.flatMap Fld.vals⟩] := ⟨_, rfl⟩
 have S1 := hid B1.out.size
 have S2 := hid (Nat.le_trans S1.out B2.out.size)
 have S3 := hid (Nat.le_trans S2.out B3.out.size)
 have S4 := hid (Nat.le_trans S3.out B4.out.size)
 have S5 := hid (Nat.le_trans S4.out B5.out.size)
 obtain ⟨w6, hw6⟩ : ∃ w6, w6 = w5.alloc (.cells (L3.flatMap Fld.vals).toArray 82) := ⟨_, rfl⟩
 obtain ⟨w7, hw7⟩ : ∃ w7, w7 = w6.alloc (.cells (l.map Src.val).toArray 78) := ⟨_, rfl⟩
 have z6 : w6.heap.size = w5.heap.size + 1 := by rw [hw6]; simp
 have D7 : Hid (Below w6.heap.size w6 w7) := hid (by rw [hw7]; exact (Below.refl _ _).alloc (Nat.le_refl _) _)
 have D6 : Hid (Below w5.heap.size w5 w7) := hid (by rw [hw6] at D7; exact ((Below.refl _ _).alloc (Nat.le_refl _) _).trans (D7.out.mono (by simp)))
 have D5 := hid (B5.out.trans (D6.out.mono B5.out.size))
 have D4 := hid (B4.out.trans (D5.out.mono B4.out.size))
 have D3 := hid (B3.out.trans (D4.out.mono B3.out.size))
 have D2 := hid (B2.out.trans (D3.out.mono B2.out.size))
 have D1 := hid (B1.out.trans (D2.out.mono B1.out.size))
 have R3 : Hid (Rd w6 (some ⟨w5.heap.size, 0, none⟩) (3 * 3) (L3.flatMap Fld.vals)) := hid (by
  have h := Rd.of_blk (w := w6) (g := w5.heap.size) (t := 82) (vs := L3.flatMap Fld.vals) (by rw [hw6]; exact Blk.new _ _ _)
  rwa [vals_len, show L3.length = 3 from by rw [hL3]; rfl] at h)
 have RQ : Hid (Rd w7 (some ⟨w6.heap.size, 0, none⟩) l.length (l.map Src.val)) := hid (by
  have h := Rd.of_blk (w := w7) (g := w6.heap.size) (t := 78) (vs := l.map Src.val) (by rw [hw7]; exact Blk.new _ _ _)
  rwa [List.length_map] at h)
 have OK : Hid (∀ s ∈ l, s.Ok w7) := hid (by
  intro s hs
  rw [hl] at hs
  rcases List.mem_cons.1 hs with rfl | hs
  ·exact src_ok (R1.out.below D2.out)
  ·rcases List.mem_cons.1 hs with rfl | hs
   ·exact src_ok (R2.out.below D3.out)
   ·rw [List.mem_singleton.1 hs]
    exact src_ok (R3.out.below D7.out))
 have ALL : Hid (AllF w0.heap.size w7 0 (L1 ++ L2 ++ L3)) := hid (by
  have a1 := A1.out.mono (Nat.le_refl _) (fun a v h => keep_below h D2.out)
  have a2 := A2.out.mono S1.out (fun a v h => keep_below h D3.out)
  refine (a1.append (by rw [hl1]; exact a2)).append ?_
  rw [List.length_append, hl1, hl2, hL3]
  exact ⟨⟨⟨_, rfl, rfl, fldS_Num _ _ acc26⟩, boxed1 S2.out (keep_below X3.out D4.out)⟩, ⟨⟨_, rfl, rfl, fldS_Txt _ _ acc27⟩, boxed1 S3.out (keep_below X4.out D5.out)⟩, ⟨⟨_, rfl, rfl, fldS_Num _ _ acc28⟩, boxed1 S4.out (keep_below X5.out D6.out)⟩, trivial⟩)
 have HLEN : Hid ((L1 ++ L2 ++ L3).length = 29) := hid (by rw [List.length_append, List.length_append, hl1, hl2, hL3]; rfl)
 have hC := concat_any w6.heap.size 3 l w7 RQ.out OK.out (by rw [hl]; exact (by decide : 0 < 10 + (16 + (3 + 0)))) (by rw [hl]; exact (by decide : 10 + (16 + (3 + 0)) ≤ 1000)) (by rw [hl]; exact (by decide : 3 ≤ 1000))
 have hsum : sumN l = 29 := by rw [hl]; rfl
 have hflat : l.flatMap (·.vs) = (L1 ++ L2 ++ L3).flatMap Fld.vals := by rw [hl, List.flatMap_append, List.flatMap_append]; simp
 rw [hsum, hflat, z6] at hC
 have hw7e : w7 = (w5.alloc (.cells (L3.flatMap Fld.vals).toArray 82)).alloc (.cells (l.map Src.val).toArray 78) := by rw [hw7, hw6]
 have HW7 := hid hw7e
 have HC := hid hC
 have HL := hid hl
 have HL3 := hid hL3
 have HW6 := hid hw6
 clear hw7e hw7 hC hl hL3 hw6 hsum hflat
 go_wp2_with fail
 have e1 := HL3.out
 have e2 := HL.out
 have e3 := HW7.out
 subst e1 e2 e3
 refine (HC.out).mono ?_
 rintro e w8 ⟨⟨v, rfl, ho⟩, hb⟩
 have HO := hid ho
 have HB := hid hb
 obtain ⟨Av, cv, rfl⟩ := own_any ho
 clear ho hb
 go_wp2_with fail
 go_ret
 have hz : w0.heap.size ≤ (World.heap _).size := D1.out.size
 exact ⟨Av, cv, _, rfl, HLEN.out, own_base' HO.out hz, ALL.out.mono (Nat.le_refl _) (fun a v h => keep_below h HB.out), D1.out.trans (HB.out.mono hz)⟩
end Go.Proofs.YteadlcncnhbmjaaGreatDoor
/- The text Ane. -/
namespace Ar
def NoAz (t : Str) : Prop := ∃ c r, t = c :: r ∧ az c = false
theorem noaz_app {t u : Str} (h : NoAz t) : NoAz (t ++ u) := by
 obtain ⟨c, r, rfl, h⟩ := h
 exact ⟨c, r ++ u, rfl, h⟩
theorem noaz_join {α : Type} (tx : α → Str) (h : ∀ x, NoAz (tx x)) : ∀ l : List α, l ≠ [] → NoAz (join [44] (l.map tx))
 | [], h0 => absurd rfl h0
 | [x], _ => h x
 | x :: y :: l, _ => by
  show NoAz (tx x ++ [44] ++ _)
  rw [List.append_assoc]
  exact noaz_app (h x)
theorem isDig_noaz {c : UInt8} (h : isDig c = true) : az c = false := by
 unfold isDig at h
 have := of_decide_eq_true h
 unfold az
 exact decide_eq_false (by omega)
theorem noaz_digs (n : Nat) : NoAz (digs n) := by
 cases hd : digs n with
 | nil => exact absurd hd (digs_ne n)
 | cons c r => exact ⟨c, r, rfl, isDig_noaz (digs_all n n (Nat.le_refl _) c (by rw [hd]; simp))⟩
theorem noaz_itoa (n : Int) : NoAz (itoa n) := by
 unfold itoa
 split
 ·exact ⟨45, _, rfl, by decide⟩
 ·exact noaz_digs _
theorem noaz_quote (s : Str) : NoAz (quote s) := ⟨34, s.flatMap esc ++ [34], by unfold quote; rfl, by decide⟩
theorem noaz_text (v : FV) (h : v.text ≠ []) : NoAz v.text := by
 cases v with
 | num n =>
  by_cases e : n = 0
  ·subst e; exact absurd rfl h
  ·rw [show FV.text (.num n) = itoa n from if_neg e]; exact noaz_itoa n
 | txt s =>
  by_cases e : s = []
  ·subst e; exact absurd rfl h
  ·rw [show FV.text (.txt s) = quote s from if_neg e]; exact noaz_quote s
 | flg b => exact absurd rfl h
 | nums l => exact noaz_join itoa noaz_itoa l (fun e => h (by rw [e]; rfl))
 | txts l => exact noaz_join quote noaz_quote l (fun e => h (by rw [e]; rfl))
 | usrs l => exact noaz_join usrT (fun p => noaz_app (noaz_quote p.1)) l (fun e => h (by rw [e]; rfl))
 | knds l => exact noaz_join kndT (fun p => noaz_app (noaz_itoa p.1)) l (fun e => h (by rw [e]; rfl))
theorem item_cases (nm : Str) (v : FV) (h0 : nm ≠ []) (haz : ∀ c ∈ nm, az c = true) :
  (wtext nm v = [] ∧ item nm v = []) ∨ (wtext nm v ≠ [] ∧ wtext nm v = nm ∧ item nm v = nm) ∨ (wtext nm v ≠ [] ∧ wtext nm v ≠ nm ∧ item nm v = nm ++ 61 :: wtext nm v) := by
 by_cases hf : isFlg v.kind = true
 ·cases v with
  | flg b => cases b with
   | false => exact .inl ⟨rfl, rfl⟩
   | true => exact .inr (.inl ⟨h0, rfl, rfl⟩)
  | _ => cases hf
 ·have hf' : isFlg v.kind = false := by simpa using hf
  have e : wtext nm v = v.text := by cases v <;> first | rfl | cases hf'
  rw [e, item_other nm hf']
  by_cases ht : v.text = []
  ·exact .inl ⟨ht, if_pos ht⟩
  ·refine .inr (.inr ⟨ht, fun hn => ?_, if_neg ht⟩)
   obtain ⟨c, r, hc, hz⟩ := noaz_text v ht
   rw [hn] at hc
   have := haz c (by rw [hc]; simp)
   rw [hz] at this
   cases this
def itemsK (e : List FV) (k : Nat) : List Str := ((List.zipWith (fun nk v => item nk.1 v) NK e).take k).filter (fun x => decide (x ≠ []))
theorem itemsK_all (e : List FV) (h : e.length = 29) : itemsK e 29 = items NK e := by
 unfold itemsK items
 rw [List.take_of_length_le (by rw [List.length_zipWith, h]; exact (by decide : min NK.length 29 ≤ 29))]
theorem itemsK_next (e : List FV) (k : Nat) (nk : Str × FK) (v : FV) (h1 : NK[k]? = some nk) (h2 : e[k]? = some v) : itemsK e (k + 1) = if item nk.1 v = [] then itemsK e k else itemsK e k ++ [item nk.1 v] := by
 unfold itemsK
 have h : (List.zipWith (fun nk v => item nk.1 v) NK e)[k]? = some (item nk.1 v) := by rw [List.getElem?_zipWith, h1, h2]
 rw [List.take_add_one, h, List.filter_append]
 by_cases hi : item nk.1 v = []
 ·rw [if_pos hi]; simp [hi]
 ·rw [if_neg hi]; simp [hi]
theorem itemsK_len (e : List FV) (k : Nat) : (itemsK e k).length ≤ k := by
 unfold itemsK
 refine Nat.le_trans (List.length_filter_le _ _) ?_
 rw [List.length_take]
 omega
end Ar
/- The text Anf. -/
namespace Go.Proofs.YteadlcncnhbmjaaGreatDoor
open Go.RowKit Go.Lib
set_option linter.unusedVariables false
theorem size_event : (Tryz.prog.info? 40).map (·.size) = some 29 := by kernel_rfl
theorem load_event (w : World) (g : Nat) (cells : Array Value) (h : Blk w g 40 cells) (hs : cells.size = 29) : (loadVar 40 ⟨g, 0, none⟩).run Tryz.prog w = .ok (.agg cells) w :=
 run_loadVar_row w g _ _ cells (0, 0) _ h Tryz.underlying40 (by rfl) (by rw [size_event, hs])
theorem str_beq (x y : List UInt8) : ((bstr x).toList == (bstr y).toList) = (x == y) := by rw [Lib.toList_data, Lib.toList_data]; rfl
theorem NK_short : ∀ p ∈ Ar.NK, p.1.length ≤ 100 := by decide
theorem item_str (nm t : List UInt8) : bstr nm ++ (⟨#[61]⟩ : ByteArray) ++ bstr t = bstr (nm ++ 61 :: t) := str_eq (by simp [bstr])
theorem wtext_len (nm : List UInt8) (v : Ar.FV) (h : v.WOk) (hn : nm.length ≤ 100) : (Ar.wtext nm v).length ≤ 100000000 := by
 cases v with
 | flg b => cases b with
  | false => exact Nat.zero_le _
  | true => show nm.length ≤ _; omega
 | _ => exact h.2.1
structure EvOf (ok : Nat → Prop) (w : World) (cells : Array Value) (e : List Ar.FV) : Prop where
 size : cells.size = 29
 fits : Ar.Fits Ar.NK e
 cell : ∀ (i : Nat) (v : Ar.FV), e[i]? = some v → ∃ c, cells[i]? = some c ∧ CellOf ok w c v
theorem EvOf.keep {ok ok' : Nat → Prop} {w w' : World} {cells : Array Value} {e : List Ar.FV} (h : EvOf ok w cells e) (hk : ∀ b, ok b → b < w.heap.size → ok' b ∧ w'.heap[b]? = w.heap[b]?) : EvOf ok' w' cells e :=
 ⟨h.size, h.fits, fun i v hv => by obtain ⟨c, h1, h2⟩ := h.cell i v hv; exact ⟨c, h1, h2.keep hk⟩⟩
theorem EvOf.below {ok : Nat → Prop} {w w' : World} {cells : Array Value} {e : List Ar.FV} (h : EvOf ok w cells e) (hb : Below w.heap.size w w') : EvOf ok w' cells e := h.keep fun b hb' hlt => ⟨hb', hb.block b hlt⟩
theorem EvOf.len {ok : Nat → Prop} {w : World} {cells : Array Value} {e : List Ar.FV} (h : EvOf ok w cells e) : e.length = 29 := h.fits.1
theorem Fld.at {w : World} {A : Option Addr} {L : List Fld} {n : Nat} (h : Rd w A (n * 3) (L.flatMap Fld.vals)) {k : Nat} {f : Fld} (hf : L[k]? = some f) : ∃ b off, A = some ⟨b, off, none⟩ ∧ w.cell? ⟨b, off + k * 3, none⟩ = some (.string (bstr f.nm)) ∧ w.cell? ⟨b, off + k * 3 + 1, none⟩ = some (.func (.func f.F) #[] f.cf) ∧ w.cell? ⟨b, off + k * 3 + 2, none⟩ = some (.func (.func f.G) #[] f.cg) := by
 have h0 := row_at Fld.vals 3 (fun _ => rfl) L k 0 f (by omega) hf
 have h1 := row_at Fld.vals 3 (fun _ => rfl) L k 1 f (by omega) hf
 have h2 := row_at Fld.vals 3 (fun _ => rfl) L k 2 f (by omega) hf
 obtain ⟨b, off, e, c0⟩ := h.2 _ _ h0
 obtain ⟨b', off', e', c1⟩ := h.2 _ _ h1
 obtain ⟨b'', off'', e'', c2⟩ := h.2 _ _ h2
 rw [e] at e' e''
 injection e' with e'
 injection e' with e1 e2 e3
 injection e'' with e''
 injection e'' with e4 e5 e6
 subst e1 e2 e4 e5
 exact ⟨b, off, e, c0, c1, c2⟩
theorem event_any (ok : Nat → Prop) (cells : Array Value) (e : List Ar.FV) (w : World) (h : EvOf ok w cells e) (hw : ∀ v ∈ e, v.WOk) (hl : (Ar.line e).length ≤ 100000000) :
  Calls Tryz.prog 19 #[.agg cells] w fun r w' => r = .returned (.string (bstr (Ar.line e))) ∧ Below w.heap.size w w' := by
 have HE := hid h
 have HW := hid hw
 have HLEN := hid hl
 have HB0 := hid ((Below.refl w.heap.size w).alloc (Nat.le_refl _) (.cells cells 40))
 have HK0 := hid (Blk.new w 40 cells)
 clear h hw hl
 go_enter Tryz.func19, Tryz.ntmps19
 go_wp2_with fail
 refine (fields_any _).mono ?_
 rintro r w1 ⟨A, cap, L, rfl, hl1, ho, ha, hb⟩
 have hrd := (SlcOf.of_own ho)
 obtain ⟨A', cap', e1, hrd, _⟩ := hrd
 injection e1 with e1 e2 e3
 subst e1 e3
 have HR1 := hid hrd
 have HA1 := hid ha
 have HB1 := hid (HB0.out.trans (hb.mono HB0.out.size))
 have HK1 := hid (HK0.out.below hb HK0.out.lt)
 have hs1 := hb.size
 have HL1 := hid hl1
 rw [World.size_alloc] at hs1
 clear ho ha hb hrd hl1
 go_wp2_with fail
 go_loopw [3, 9] (fun out ix wr => ∃ k : Nat, k ≤ 29 ∧ ix = .int .i64 k ∧ OwnS w1.heap.size wr out (Ar.itemsK e k) ∧ Below w1.heap.size w1 wr) (fun _ ix _ => 29 - (RowKit.intOf ix).toNat)
 case atStart => exact ⟨0, by omega, rfl, World.ownsRow_nil w1 _ _ _, Below.refl _ _⟩
 case round =>
  obtain ⟨k, hk, rfl, ho, hb⟩ := hrel
  have HO := hid ho
  have HB := hid hb
  have hbs := hb.size
  clear ho hb
  by_cases hlt : k < 29
  ·obtain ⟨f, hf⟩ : ∃ f, L[k]? = some f := ⟨L[k]'(by rw [HL1.out]; exact hlt), List.getElem?_eq_getElem _⟩
   obtain ⟨v, hv⟩ : ∃ v, e[k]? = some v := ⟨e[k]'(by rw [HE.out.len]; exact hlt), List.getElem?_eq_getElem _⟩
   obtain ⟨ba, oa, rfl, hc0, hc1, hc2⟩ := Fld.at (HR1.out.below HB.out) hf
   have hAF := HA1.out.at hf
   rw [Nat.zero_add] at hAF
   obtain ⟨⟨nk, hnk, hnm, hS⟩, hBx⟩ := hAF
   obtain ⟨cv, hcv, hcell⟩ := HE.out.cell k v hv
   have hkind := (HE.out.fits.2 k nk v hnk hv).1
   have hEN := hS.entF
   have HBK := HK1.out.below HB.out HK1.out.lt
   have hlte := HK1.out.lt
   have HV := hid hv
   have HNK := hid hnk
   have hbx3 := (Blk.new wr 82 #[.string (bstr f.nm), .func (.func f.F) #[] f.cf, .func (.func f.G) #[] f.cg])
   have hb0 := hbx3.cell 0
   have hb1 := hbx3.cell 1
   rw [show (#[.string (bstr f.nm), .func (.func f.F) #[] f.cf, .func (.func f.G) #[] f.cg] : Array Value)[0]? = some (.string (bstr f.nm)) from rfl] at hb0
   rw [show (#[.string (bstr f.nm), .func (.func f.F) #[] f.cf, .func (.func f.G) #[] f.cg] : Array Value)[1]? = some (.func (.func f.F) #[] f.cf) from rfl] at hb1
   have HLD := hid (HBK.alloc (.cells #[.string (bstr f.nm), .func (.func f.F) #[] f.cf, .func (.func f.G) #[] f.cg] 82))
   have HNM := hid hnm
   have HSS := hid hS
   have HBX := hid hBx
   have HCV := hid hcv
   have HCE := hid hcell
   have HKI := hid hkind
   have HES := hid (EvOf.size HE.out)
   clear hv hnk hbx3 hnm hS hBx hcv hcell hkind HBK
   go_wp2_with (refine wpList_load_row rfl 40 _ rfl w.heap.size rfl 40 cells (0, 0) _ HLD.out Tryz.underlying40 rfl (by rw [size_event, HES.out]) ?_)
   have HT := hid (HB1.out.trans (HB.out.mono HB1.out.size))
   have HTA : Hid (Below w.heap.size w (wr.alloc (.cells #[.string (bstr f.nm), .func (.func f.F) #[] f.cf, .func (.func f.G) #[] f.cg] 82))) := hid (HT.out.alloc HT.out.size _)
   have HBXW : Hid (f.Boxed (w.alloc (.cells cells 40)).heap.size (wr.alloc (.cells #[.string (bstr f.nm), .func (.func f.F) #[] f.cf, .func (.func f.G) #[] f.cg] 82))) := hid (fun p hp => ⟨(HBX.out p hp).1, keep_below (keep_below (HBX.out p hp).2 HB.out) ((Below.refl _ _).alloc (Nat.le_refl _) _)⟩)
   have HCW : Hid (CellOf ok (wr.alloc (.cells #[.string (bstr f.nm), .func (.func f.F) #[] f.cf, .func (.func f.G) #[] f.cg] 82)) cv v) := hid (HCE.out.keep fun b hb hlt => ⟨hb, HTA.out.block b hlt⟩)
   have HVW : Hid v.WOk := hid (HW.out v (List.mem_of_getElem? HV.out))
   refine (HSS.out.writes _ _ cells cv v ok HBXW.out HCV.out HCW.out HKI.out HVW.out).mono ?_
   rintro r w3 ⟨rfl, hb3⟩
   have hn0 := keep_below hb0 hb3
   have HB3 := hid hb3
   have hs3 := hb3.size
   rw [World.size_alloc] at hs3
   have HO3 : Hid (OwnS w1.heap.size w3 u3 (Ar.itemsK e k)) := hid (own_below (HO.out.alloc _) hb3 (Nat.le_refl _))
   have HBW3 : Hid (Below w1.heap.size w1 w3) := hid ((HB.out.alloc hbs _).trans (hb3.mono (by rw [World.size_alloc]; omega)))
   have HNX := hid (Ar.itemsK_next e k nk v HNK.out HV.out)
   have hmem := List.mem_of_getElem? HNK.out
   have hics := Ar.item_cases nk.1 v (Ar.NK_az nk hmem).1 (Ar.NK_az nk hmem).2
   have hxl : (bstr (Ar.wtext f.nm v)).size ≤ 100000000 := by rw [bstr_size]; exact wtext_len _ _ HVW.out (by rw [HNM.out]; exact NK_short nk hmem)
   have hnl : (bstr f.nm).size ≤ 100 := by rw [bstr_size, HNM.out]; exact NK_short nk hmem
   have hKL : Hid ((Ar.itemsK e k).length ≤ k) := hid (Ar.itemsK_len e k)
   rw [← HNM.out] at hics
   have HIT := hid (item_str f.nm (Ar.wtext f.nm v))
   have hem := bstr_empty (Ar.wtext f.nm v)
   have hbe := str_beq (Ar.wtext f.nm v) f.nm
   rw [← HNM.out] at HNX
   clear hb3 hmem hb0 hb1
   rcases hics with ⟨h1, h2⟩ | ⟨h1, h2, h3⟩ | ⟨h1, h2, h3⟩
   ·have hem2 : (bstr (Ar.wtext f.nm v)).toList.isEmpty = true := by rw [hem, h1]; rfl
    have HN2 : Hid (Ar.itemsK e (k + 1) = Ar.itemsK e k) := hid (by rw [HNX.out, if_pos h2])
    clear hem hbe h1 h2
    generalize bstr (Ar.wtext f.nm v) = X at *
    generalize bstr f.nm = N at *
    go_wp2_with fail
    go_roundw
    case rel => exact ⟨k + 1, by omega, by go_num, by rw [HN2.out]; exact HO3.out, HBW3.out⟩
    case measure => simp [RowKit.intOf]; omega
   ·have hem2 : (bstr (Ar.wtext f.nm v)).toList.isEmpty = false := by rw [hem]; cases hh : Ar.wtext f.nm v with
     | nil => exact absurd hh h1
     | cons c r => rfl
    have hbe2 : ((bstr (Ar.wtext f.nm v)).toList == (bstr f.nm).toList) = true := by rw [hbe, h2]; exact beq_self_eq_true _
    have hin : Ar.item f.nm v ≠ [] := by rw [h3, ← h2]; exact h1
    have HN2 : Hid (Ar.itemsK e (k + 1) = Ar.itemsK e k ++ [Ar.wtext f.nm v]) := hid (by rw [HNX.out, if_neg hin, h3, h2])
    clear hem hbe h1 h2 h3 hin
    generalize hX : bstr (Ar.wtext f.nm v) = X at *
    generalize bstr f.nm = N at *
    have HX := hid hX
    clear hX
    go_wp2_with (at_builtin; refine app_lit rowStr rfl _ _ rfl w3 [.string X] 1 rfl (by rw [← HX.out]; exact one_strs [Ar.wtext f.nm v]) u3 (Ar.itemsK e k).length (strL (Ar.itemsK e k)) w1.heap.size rfl HO3.out rfl (by omega) (by have := hKL.out; omega) ?_; intro v4 w4 ho4 hg4 hb4)
    go_roundw
    case rel => exact ⟨k + 1, by omega, by go_num, by rw [HN2.out]; unfold OwnS; rw [List.length_append, strL_append]; rw [← HX.out] at ho4; exact ho4, hb4 _ HBW3.out⟩
    case measure => simp [RowKit.intOf]; omega
   ·have hem2 : (bstr (Ar.wtext f.nm v)).toList.isEmpty = false := by rw [hem]; cases hh : Ar.wtext f.nm v with
     | nil => exact absurd hh h1
     | cons c r => rfl
    have hbe2 : ((bstr (Ar.wtext f.nm v)).toList == (bstr f.nm).toList) = false := by rw [hbe]; exact beq_eq_false_iff_ne.2 h2
    have hin : Ar.item f.nm v ≠ [] := by rw [h3]; simp
    have HN2 : Hid (Ar.itemsK e (k + 1) = Ar.itemsK e k ++ [f.nm ++ 61 :: Ar.wtext f.nm v]) := hid (by rw [HNX.out, if_neg hin, h3])
    clear hem hbe h1 h2 h3 hin
    generalize bstr (Ar.wtext f.nm v) = X at *
    generalize bstr f.nm = N at *
    go_wp2_with (at_builtin; refine app_lit rowStr rfl _ _ rfl w3 [.string (N ++ (⟨#[61]⟩ : ByteArray) ++ X)] 1 rfl (by rw [HIT.out]; exact one_strs [f.nm ++ 61 :: Ar.wtext f.nm v]) u3 (Ar.itemsK e k).length (strL (Ar.itemsK e k)) w1.heap.size rfl HO3.out rfl (by omega) (by have := hKL.out; omega) ?_; intro v4 w4 ho4 hg4 hb4)
    go_roundw
    case rel => exact ⟨k + 1, by omega, by go_num, by rw [HN2.out]; unfold OwnS; rw [List.length_append, strL_append]; rw [HIT.out] at ho4; exact ho4, hb4 _ HBW3.out⟩
    case measure => simp [RowKit.intOf]; omega
  ·obtain rfl : k = 29 := by omega
   have HI := hid (Ar.itemsK_all e HE.out.len)
   have hj := join_own wr w1.heap.size u3 (Ar.itemsK e 29) ⟨#[32]⟩ HO.out (by have := Ar.itemsK_len e 29; omega) (by rw [HI.out]; exact HLEN.out)
   have HJ := hid hj
   clear hj
   go_wp2_with fail
   refine (HJ.out).mono ?_
   rintro r w3 ⟨rfl, hb3⟩
   have HF := hid ((HB1.out.trans (HB.out.mono HB1.out.size)).trans (hb3.mono (Nat.le_trans HB1.out.size hbs)))
   clear hb3
   go_wp2_with fail
   go_ret
   exact ⟨ret_str (by rw [HI.out]; rfl), HF.out⟩
end Go.Proofs.YteadlcncnhbmjaaGreatDoor
