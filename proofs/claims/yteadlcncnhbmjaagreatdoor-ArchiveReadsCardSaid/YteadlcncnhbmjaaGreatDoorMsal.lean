/- The texts An9, Ana, Anb, Anc, And of this proof, one behind the other. -/
import Derived.Lib.AppendZerosOnto
import Derived.Test.YteadlcncnhbmjaaGreatDoorMsak
set_option linter.unusedSimpArgs false
set_option maxHeartbeats 16000000
set_option maxRecDepth 100000
set_option linter.unusedVariables false
namespace Go.Proofs.YteadlcncnhbmjaaGreatDoor
open Go.RowKit Go.Lib
theorem F5 : (Tryz.prog.info? 82).map (fun i => (i.zero, i.size, i.bytes)) = some (some (.agg #[.string ByteArray.empty, .nilFunc, .nilFunc]), 3, 32) := by kernel_rfl
theorem P0 : RowT 78 82 3 32 := ⟨Tryz.underlying78, ⟨_, F5, rfl⟩, by decide, by decide⟩
theorem Pi (n : Nat) (w : World) (hn : 0 < n) (hn2 : n ≤ 1000) :
  Calls Tryz.prog 159 #[.slice none 0 0, .int .i64 n] w fun e w' => (∃ v, e = .returned v ∧ w'.ownsRow w.heap.size 82 3 v 0 []) ∧ Below w.heap.size w w' := by
 obtain ⟨i, hi, hz, hs, hb⟩ := Cf F5;have hrz : ∀ ty, (Builtin.append_ #[78, 3] ty #[.slice none 0 0, .int .i64 n]).run Tryz.prog w = _ := fun ty => Lib.run_append_grow_zeros w 78 3 ty 82 i _ .i64 .i64 Tryz.underlying78 Tryz.underlying3 hi hz none 0 0 [] (run_firstCells_none w.drew i.size 0 0 0) n hn (by omega) (by omega) (by omega) (by rw [hb]; omega) (growslice_fits (by omega) (by rw [hb]; omega))
 rw [Nat.zero_add] at hrz;have hGn : n ≤ grownCap w n 0 82 := grownCap_ge w _ _ _;have hG48 := grownCap_le_maxLen w n 0 82 (by unfold maxLen; omega);obtain ⟨G, hG⟩ : ∃ G, G = grownCap w n 0 82 := ⟨_, rfl⟩;rw [← hG] at hrz hGn hG48;have hG63 : G ≤ 9223372036854775807 := by unfold maxLen at hG48; omega
 clear hG hi hz hs hb;have HL := hid hG48;obtain ⟨cs, hcs⟩ : ∃ cs : Array Value, cs = #[] ++ Builtin.zeroCells (Value.agg #[Value.string ByteArray.empty, Value.nilFunc, Value.nilFunc]).cells n ++ Builtin.zeroCells (Value.agg #[Value.string ByteArray.empty, Value.nilFunc, Value.nilFunc]).cells (G - n) := ⟨_, rfl⟩;have hcn : cs.size = G * 3 := by
  rw [hcs, Array.size_append, Array.size_append, size_zeroCells, size_zeroCells];show 0 + n * 3 + (G - n) * 3 = G * 3;omega
 rw [show (List.toArray ([] : List Value)) = #[] from rfl, ← hcs] at hrz;clear hcs hG48;go_enter Tryz.func159, Tryz.ntmps159;go_wp2_with (at_builtin; refine Lib.wpList_append_run _ rfl _ _ _ _ rfl _ _ rfl rfl _ _ (hrz _) ?_)
 all_goals
  go_ret;exact ⟨⟨_, rfl, rfl, .inr ⟨w.heap.size, G, cs, rfl, Nat.le_refl _, (Blk.new w.drew _ cs), Nat.zero_le _, HL.out, hcn, rfl⟩⟩, (Below.refl _ w).drew.alloc (Nat.le_refl _) _⟩
section
variable {ops : Array Oper} {rest : List Oper} {o : Oper} {a : Act} {Q : Exit → Act → World → Prop} {T e : TypeId} {size bytes : Nat}
theorem Q1 (hT : RowT T e size bytes) (hgd : o.guard = none) (s x : Operand) (ho : o.op = .call { callee := .builtin .append, args := #[s, x], argTypes := #[T, T] })
  (wr : World) (ys : List Value) (m : Nat) (hl : ys.length = m * size) (h1 : ∀ u ∈ ys, u.oneCell' = true) (v : Value) (n : Nat) (xs : List Value) (base : Nat) (hs : a.eval s = v) (hown : wr.ownsRow base e size v n xs)
  (g c : Nat) (hx : a.eval x = .slice (some ⟨g, 0, none⟩) m c) (hr : ∀ j u, ys[j]? = some u → wr.cell? ⟨g, j, none⟩ = some u) (hbase : base ≤ wr.heap.size) (hlen : n + m ≤ 100000000000)
  (h : ∀ v' w', w'.ownsRow base e size v' (n + m) (xs ++ ys) → wr.grownBy w' v.ownBlock → (∀ w0, Below base w0 wr → Below base w0 w') → wpList Tryz.prog ops Q rest (a.put o.dst v') w') :
  wpList Tryz.prog ops Q (o :: rest) a wr := by
 refine wpList_plain hgd fun K hK => ?_
 obtain ⟨v', w', hrun, h2, h3, h4⟩ := Io hT o.type wr v n xs ys base hown g m c hl h1 hr hbase hlen;unfold Oper.wp execOp;simp only [ho, resolve, invoke, builtin, Sem.run_bind, Sem.run_pure, Result.andThen_ok, List.map_toArray, List.map_cons, List.map_nil, hs, hx, hrun];exact hK _ _ (h v' w' h2 h3 h4)
end
structure Src where
 g : Nat
 n : Nat
 c : Nat
 vs : List Value
abbrev Src.val (s : Src) : Value := .slice (some ⟨s.g, 0, none⟩) s.n s.c
structure Src.Ok (w : World) (s : Src) : Prop where
 rd : Rd w (some ⟨s.g, 0, none⟩) (s.n * 3) s.vs
 one : ∀ u ∈ s.vs, u.oneCell' = true
def sumN (l : List Src) : Nat := (l.map (·.n)).sum
theorem JM {l : List Src} {k : Nat} {s : Src} (h : l[k]? = some s) : sumN (l.take (k + 1)) = sumN (l.take k) + s.n := by
 unfold sumN;rw [BF h, List.map_append, List.sum_append];simp
theorem MK : ∀ (l : List Src) (k : Nat), sumN (l.take k) ≤ sumN l
 | [], k => by simp
 | s :: l, 0 => by unfold sumN; simp
 | s :: l, k + 1 => by
  have := MK l k;unfold sumN at *;rw [List.take_succ_cons, List.map_cons, List.map_cons, List.sum_cons, List.sum_cons];omega
theorem OA {l : List Src} {k : Nat} {s : Src} (h : l[k]? = some s) : (l.take (k + 1)).flatMap (·.vs) = (l.take k).flatMap (·.vs) ++ s.vs := by rw [BF h, List.flatMap_append]; simp
theorem Src.Ok.below {w w' : World} {s : Src} (h : s.Ok w) (hb : Below w.heap.size w w') : s.Ok w' := ⟨h.rd.below hb, h.one⟩
theorem Mw (q c : Nat) (l : List Src) (w : World) (hR : Rd w (some ⟨q, 0, none⟩) l.length (l.map Src.val)) (hO : ∀ s ∈ l, s.Ok w) (h0 : 0 < sumN l) (h1 : sumN l ≤ 1000) (hl : l.length ≤ 1000) :
  Calls Tryz.prog 102 #[.slice (some ⟨q, 0, none⟩) l.length c] w fun e w' => (∃ v, e = .returned v ∧ w'.ownsRow w.heap.size 82 3 v (sumN l) (l.flatMap (·.vs))) ∧ Below w.heap.size w w' := by
 have HR := hid hR;have HO := hid hO;have HLE := hid (MK l);have HAT : Hid (∀ k, k < l.length → ∃ s, l[k]? = some s ∧ s ∈ l) := hid (fun k hk => ⟨l[k], List.getElem?_eq_getElem hk, List.getElem_mem hk⟩);clear hR hO;go_enter Tryz.func102, Tryz.ntmps102;go_wp2_with fail
 go_loopw [3, 11] (fun sz ix wr => ∃ k : Nat, k ≤ l.length ∧ ix = .int .i64 k ∧ sz = .int .i64 (sumN (l.take k) : Nat) ∧ w = wr) (fun _ ix _ => l.length - (RowKit.intOf ix).toNat)
 case atStart => exact ⟨0, by omega, rfl, rfl, rfl⟩
 case round =>
  obtain ⟨k, hk, rfl, rfl, hw⟩ := hrel;subst hw;by_cases hlt : k < l.length
  ·obtain ⟨s, hs, hm⟩ := HAT.out k hlt;obtain ⟨b, off, v, e1, e2, hc⟩ := HR.out.at_ hlt;injection e1 with e1;injection e1 with e1 e3 e4;subst e1 e3;rw [List.getElem?_map, hs] at e2;injection e2 with e2;subst e2;rw [Nat.zero_add] at hc;have hsn := JM hs;have hle := HLE.out (k + 1);have HS := hid hsn;obtain ⟨u, hu⟩ : ∃ u, sumN (l.take k) = u := ⟨_, rfl⟩;rw [hu] at hsn HS ⊢;rw [hsn] at hle;clear hs hm hsn hu;go_wp2_with fail
   go_roundw
   case rel => exact ⟨k + 1, by omega, by go_num, by rw [HS.out]; go_num, trivial⟩
   case measure => simp [RowKit.intOf]; omega
  ·obtain rfl : k = l.length := by omega
   rw [List.take_length];have HSL := hid h1;obtain ⟨S, hS⟩ : ∃ S, sumN l = S := ⟨_, rfl⟩;have HSS := hid hS;rw [hS] at h0 h1 ⊢;clear hS;go_wp2_with fail;refine (Pi S _ h0 h1).mono ?_;rintro e w2 ⟨⟨v2, rfl, ho2⟩, hb2⟩;have HO2 := hid ho2;have HB2 := hid hb2;clear ho2 hb2;go_wp2_with fail
   go_loopw [6, 27] (fun out ix wr => ∃ k : Nat, k ≤ l.length ∧ ix = .int .i64 k ∧ wr.ownsRow w.heap.size 82 3 out (sumN (l.take k)) ((l.take k).flatMap (·.vs)) ∧ Below w.heap.size w wr) (fun _ ix _ => l.length - (RowKit.intOf ix).toNat)
   case atStart => exact ⟨0, by omega, rfl, HO2.out, HB2.out⟩
   case round =>
    obtain ⟨k, hk, rfl, ho, hb⟩ := hrel;have HOW := hid ho;have HB := hid hb;have hbs := hb.size;clear ho;by_cases hlt : k < l.length
    ·obtain ⟨s, hs, hm⟩ := HAT.out k hlt;obtain ⟨b, off, v, e1, e2, hc⟩ := (HR.out.below hb).at_ hlt;injection e1 with e1;injection e1 with e1 e3 e4;subst e1 e3;rw [List.getElem?_map, hs] at e2;injection e2 with e2;subst e2;rw [Nat.zero_add] at hc;have hok := (HO.out s hm).below hb;have HS := hid (JM hs);have HF := hid (OA hs);have hle := HLE.out (k + 1);rw [HS.out, HSS.out] at hle;have HOK := hid hok
     have HRD : Hid (∀ j u, s.vs[j]? = some u → wr.cell? ⟨s.g, j, none⟩ = some u) := hid (fun j u hj => by
      obtain ⟨g', o', e, h⟩ := hok.rd.2 j u hj;injection e with e;injection e with e5 e6 e7;subst e5 e6
      rwa [Nat.zero_add] at h)
     have HLV : Hid (s.vs.length = s.n * 3) := hid hok.rd.1;obtain ⟨u, hu⟩ : ∃ u, sumN (l.take k) = u := ⟨_, rfl⟩;rw [hu] at HOW HS hle;clear hs hm hu hb hok;go_wp2_with (at_builtin; refine Q1 P0 rfl _ _ rfl wr s.vs s.n HLV.out HOK.out.one u6 u ((l.take k).flatMap (·.vs)) w.heap.size rfl HOW.out s.g s.c rfl HRD.out hbs (by omega) ?_; intro v4 w4 ho4 hg4 hb4)
     go_roundw
     case rel => exact ⟨k + 1, by omega, by go_num, by rw [HS.out, HF.out]; exact ho4, hb4 w HB.out⟩
     case measure => simp [RowKit.intOf]; omega
    ·obtain rfl : k = l.length := by omega
     rw [List.take_length] at HOW;rw [HSS.out] at HOW;go_wp2_with fail;go_ret;exact ⟨⟨_, rfl, by rw [HSS.out]; exact HOW.out⟩, HB.out⟩
end Go.Proofs.YteadlcncnhbmjaaGreatDoor
namespace Ar
def wtext (nm : Str) : FV → Str
 | .flg b => if b then nm else []
 | v => v.text
def FV.Small : FV → Prop
 | .txt s => s.length ≤ 1000000
 | .nums l => l.length ≤ 1000000
 | .txts l => l.length ≤ 1000000 ∧ ∀ x ∈ l, x.length ≤ 1000000
 | .usrs l => l.length ≤ 1000000 ∧ ∀ x ∈ l, x.1.length ≤ 1000000
 | .knds l => l.length ≤ 1000000
 | _ => True
def FV.WOk (v : FV) : Prop := v.Ok ∧ v.text.length ≤ 100000000 ∧ v.Small
end Ar
namespace Go.Proofs.YteadlcncnhbmjaaGreatDoor
open Go.RowKit Go.Lib
def SlcOf (ok : Nat → Prop) (w : World) (c : Value) (n sz : Nat) (vs : List Value) : Prop := ∃ A cap, c = .slice A n cap ∧ Rd w A (n * sz) vs ∧ (0 < n → ∀ a, A = some a → ok a.block)
def CellOf (ok : Nat → Prop) (w : World) (c : Value) : Ar.FV → Prop
 | .num n => c = .int .i64 n
 | .txt s => c = .string (bstr s)
 | .flg b => c = .bool b
 | .nums l => SlcOf ok w c l.length 1 (intL l)
 | .txts l => SlcOf ok w c l.length 1 (strL l)
 | .usrs l => SlcOf ok w c l.length 2 (usrL l)
 | .knds l => SlcOf ok w c l.length 2 (kndL l)
theorem SlcOf.keep {ok ok' : Nat → Prop} {w w' : World} {c : Value} {n sz : Nat} {vs : List Value} (h : SlcOf ok w c n sz vs) (hsz : 0 < sz) (hk : ∀ b, ok b → b < w.heap.size → ok' b ∧ w'.heap[b]? = w.heap[b]?) : SlcOf ok' w' c n sz vs := by
 obtain ⟨A, cap, rfl, h1, h2⟩ := h;have hbl : ∀ a, A = some a → 0 < n → a.block < w.heap.size := fun a ha hn => h1.block ha (Nat.mul_pos hn hsz)
 refine ⟨A, cap, rfl, ⟨h1.1, fun j v hj => ?_⟩, fun hn a ha => (hk _ (h2 hn a ha) (hbl a ha hn)).1⟩;obtain ⟨g, o, e, hc⟩ := h1.2 j v hj;have hn : 0 < n := by
  rcases Nat.eq_zero_or_pos n with e0 | e0
  ·have := h1.1;rw [e0, Nat.zero_mul] at this;rw [List.eq_nil_of_length_eq_zero this] at hj;simp at hj
  ·exact e0
 refine ⟨g, o, e, ?_⟩;rw [← hc];exact World.cell?_of_block (w := w) (hk g (h2 hn _ e) (hbl _ e hn)).2
theorem CellOf.keep {ok ok' : Nat → Prop} {w w' : World} {c : Value} {v : Ar.FV} (h : CellOf ok w c v) (hk : ∀ b, ok b → b < w.heap.size → ok' b ∧ w'.heap[b]? = w.heap[b]?) : CellOf ok' w' c v := by
 cases v with
 | num n => exact h
 | txt s => exact h
 | flg b => exact h
 | nums l => exact SlcOf.keep h (by decide) hk
 | txts l => exact SlcOf.keep h (by decide) hk
 | usrs l => exact SlcOf.keep h (by decide) hk
 | knds l => exact SlcOf.keep h (by decide) hk
theorem SlcOf.of_own {base : Nat} {w : World} {e : TypeId} {c : Value} {n sz : Nat} {vs : List Value} (h : w.ownsRow base e sz c n vs) : SlcOf (fun b => base ≤ b) w c n sz vs := by
 obtain ⟨h1, h2⟩ := h;rcases h2 with ⟨rfl, rfl⟩ | ⟨g, cap, cur, rfl, hg, hh, hn, hcap, hsz, ht⟩
 ·rw [Nat.zero_mul] at h1;refine ⟨none, 0, rfl, ⟨by rw [Nat.zero_mul]; exact h1, fun j v hj => ?_⟩, fun hn => absurd hn (by omega)⟩;rw [List.eq_nil_of_length_eq_zero h1] at hj;simp at hj
 ·refine ⟨_, _, rfl, ⟨h1, fun j v hj => ⟨g, 0, rfl, ?_⟩⟩, fun _ a e => by injection e with e; subst e; exact hg⟩;have hB : Blk w g e cur := hh;rw [Nat.zero_add, hB.cell, ← Array.getElem?_toList];rw [← ht] at hj;have hlt := (List.getElem?_eq_some_iff.1 hj).1;rw [List.length_take] at hlt;rwa [List.getElem?_take_of_lt (by omega)] at hj
structure Fld where
 nm : List UInt8
 F : FuncId
 G : FuncId
 cf : Array Value
 cg : Array Value
 bs : List (Addr × Value)
def Fld.vals (f : Fld) : List Value := [.string (bstr f.nm), .func (.func f.F) #[] f.cf, .func (.func f.G) #[] f.cg]
def Fld.Boxed (f : Fld) (lo : Nat) (w : World) : Prop := ∀ p ∈ f.bs, lo ≤ p.1.block ∧ w.cell? p.1 = some p.2
structure FldS (i : Nat) (k : Ar.FK) (f : Fld) : Prop where
 entF : ∀ (args : Array Value) (w : World), (callFunc f.F args).run Tryz.prog w = .ok (.enter f.F args) w
 entG : ∀ (args : Array Value) (w : World), (callFunc f.G args).run Tryz.prog w = .ok (.enter f.G args) w
 writes : ∀ (lo : Nat) (w : World) (cells : Array Value) (c : Value) (v : Ar.FV) (ok : Nat → Prop), f.Boxed lo w → cells[i]? = some c → CellOf ok w c v → v.kind = k → v.WOk →
  Calls Tryz.prog f.F (#[.agg cells] ++ f.cf) w fun e w' => e = .returned (.string (bstr (Ar.wtext f.nm v))) ∧ Below w.heap.size w w'
 reads : ∀ (lo : Nat) (w : World) (g ge : Nat) (r : Ar.RS) (cells : Array Value), f.Boxed lo w → RdS w g r → r.1.length ≤ 1000000 → Ready w → 3 ≤ g → Blk w ge 40 cells → ge ≠ g → i < cells.size →
  Calls Tryz.prog f.G (#[.pointer (some ⟨g, 0, none⟩), .pointer (some ⟨ge, 0, none⟩)] ++ f.cg) w fun e w' => e = .returned (.tuple #[]) ∧ Reads w w' g ge i (Ar.readK k r).2 (fun W c => CellOf (fun b => w.heap.size ≤ b) W c (Ar.readK k r).1)
theorem Reads.mono {w w' : World} {g ge i : Nat} {r' : Ar.RS} {C D : World → Value → Prop} (h : Reads w w' g ge i r' C) (hC : ∀ W c, C W c → D W c) : Reads w w' g ge i r' D := by
 obtain ⟨w2, c, h1, h2, h3, h4⟩ := h;exact ⟨w2, c, h1, h2, h3, hC _ _ h4⟩
theorem Fld.Boxed.get {f : Fld} {lo : Nat} {w : World} (h : f.Boxed lo w) {a : Addr} {v : Value} (hm : (a, v) ∈ f.bs) : w.cell? a = some v := (h _ hm).2
abbrev bP (b : Nat) : Value := .pointer (some ⟨b, 0, none⟩)
abbrev accV (acc : FuncId) : Value := .func (.func acc) #[] #[]
def mkNum (nm : List UInt8) (acc : FuncId) (b : Nat) : Fld := ⟨nm, 189, 190, #[bP b], #[bP b], [(⟨b, 0, none⟩, accV acc)]⟩
theorem Cl {i : Nat} (nm : List UInt8) {acc : FuncId} (b : Nat) (ha : Acc acc i) : FldS i .num (mkNum nm acc b) where
 entF := enters_of Tryz.func189 (by kernel_rfl) rfl
 entG := enters_of Tryz.func190 (by kernel_rfl) rfl
 writes lo w cells c v ok hb hc hv hk hw := by
  cases v with
  | num n =>
   have hv' : c = .int .i64 n := hv;rw [hv'] at hc;exact OO acc i b cells n w ha (hb.get (List.mem_singleton.2 rfl)) hc hw.1
  | _ => cases hk
 reads lo w g ge r cells hb hr hl hy h3 hge hne hi := (PZ acc i b g ge r cells w ha (hb.get (List.mem_singleton.2 rfl)) hr hl hy h3 hge hne hi).mono fun e w' h => ⟨h.1, h.2.mono fun W c h => h⟩
def mkTxt (nm : List UInt8) (acc : FuncId) (b : Nat) : Fld := ⟨nm, 191, 192, #[bP b], #[bP b], [(⟨b, 0, none⟩, accV acc)]⟩
theorem Eh {i : Nat} (nm : List UInt8) {acc : FuncId} (b : Nat) (ha : Acc acc i) : FldS i .txt (mkTxt nm acc b) where
 entF := enters_of Tryz.func191 (by kernel_rfl) rfl
 entG := enters_of Tryz.func192 (by kernel_rfl) rfl
 writes lo w cells c v ok hb hc hv hk hw := by
  cases v with
  | txt s =>
   have hv' : c = .string (bstr s) := hv;rw [hv'] at hc;exact Qt acc i b cells s w ha (hb.get (List.mem_singleton.2 rfl)) hc hw.2.2
  | _ => cases hk
 reads lo w g ge r cells hb hr hl hy h3 hge hne hi := (O4 acc i b g ge r cells w ha (hb.get (List.mem_singleton.2 rfl)) hr hl hy h3 hge hne hi).mono fun e w' h => ⟨h.1, h.2.mono fun W c h => h⟩
def EV (nm : List UInt8) (acc : FuncId) (b : Nat) : Fld := ⟨nm, 212, 213, #[bP b], #[bP b], [(⟨b, 0, none⟩, accV acc)]⟩
theorem Jw {i : Nat} (nm : List UInt8) {acc : FuncId} (b : Nat) (ha : Acc acc i) : FldS i .nums (EV nm acc b) where
 entF := enters_of Tryz.func212 (by kernel_rfl) rfl
 entG := enters_of Tryz.func213 (by kernel_rfl) rfl
 writes lo w cells c v ok hb hc hv hk hw := by
  cases v with
  | nums l =>
   obtain ⟨A, cap, rfl, hR, _⟩ := hv;rw [Nat.mul_one] at hR;exact Ob acc i b cells A cap l w ha (hb.get (List.mem_singleton.2 rfl)) hc hR hw.1 hw.2.2 hw.2.1
  | _ => cases hk
 reads lo w g ge r cells hb hr hl hy h3 hge hne hi := (Ni acc i b g ge r cells w ha (hb.get (List.mem_singleton.2 rfl)) hr hl hy h3 hge hne hi).mono fun e w' h => ⟨h.1, h.2.mono fun W c h => SlcOf.of_own h⟩
def EO (nm : List UInt8) (acc : FuncId) (b : Nat) : Fld := ⟨nm, 214, 216, #[bP b], #[bP b], [(⟨b, 0, none⟩, accV acc)]⟩
theorem Jj {i : Nat} (nm : List UInt8) {acc : FuncId} (b : Nat) (ha : Acc acc i) : FldS i .txts (EO nm acc b) where
 entF := enters_of Tryz.func214 (by kernel_rfl) rfl
 entG := enters_of Tryz.func216 (by kernel_rfl) rfl
 writes lo w cells c v ok hb hc hv hk hw := by
  cases v with
  | txts l =>
   obtain ⟨A, cap, rfl, hR, _⟩ := hv;rw [Nat.mul_one] at hR;exact NY acc i b cells A cap l w ha (hb.get (List.mem_singleton.2 rfl)) hc hR hw.2.2.2 hw.2.2.1 hw.2.1
  | _ => cases hk
 reads lo w g ge r cells hb hr hl hy h3 hge hne hi := (Nc acc i b g ge r cells w ha (hb.get (List.mem_singleton.2 rfl)) hr hl hy h3 hge hne hi).mono fun e w' h => ⟨h.1, h.2.mono fun W c h => SlcOf.of_own h⟩
def mkFlg (nm : List UInt8) (acc : FuncId) (b : Nat) : Fld := ⟨nm, 210, 211, #[bP (b + 1), bP b], #[bP (b + 1)], [(⟨b + 1, 0, none⟩, accV acc), (⟨b, 0, none⟩, .string (bstr nm))]⟩
theorem KD {i : Nat} (nm : List UInt8) {acc : FuncId} (b : Nat) (ha : Acc acc i) : FldS i .flg (mkFlg nm acc b) where
 entF := enters_of Tryz.func210 (by kernel_rfl) rfl
 entG := enters_of Tryz.func211 (by kernel_rfl) rfl
 writes lo w cells c v ok hb hc hv hk hw := by
  cases v with
  | flg x =>
   have hv' : c = .bool x := hv;rw [hv'] at hc;refine (Np acc i (b + 1) b (bstr nm) cells x w ha (hb.get (List.mem_cons_self ..)) (hb.get (List.mem_cons_of_mem _ (List.mem_singleton.2 rfl))) hc).mono ?_;rintro e w' ⟨rfl, h⟩;exact ⟨by cases x <;> rfl, h⟩
  | _ => cases hk
 reads lo w g ge r cells hb hr hl hy h3 hge hne hi := (N3 acc i (b + 1) g ge r cells w ha (hb.get (List.mem_cons_self ..)) hr hge hi).mono fun e w' h => ⟨h.1, h.2.mono fun W c h => h⟩
def Ie : Fld := ⟨[107, 105, 110, 100], 208, 209, #[], #[], []⟩
theorem OD : FldS 3 .num Ie where
 entF := enters_of Tryz.func208 (by kernel_rfl) rfl
 entG := enters_of Tryz.func209 (by kernel_rfl) rfl
 writes lo w cells c v ok hb hc hv hk hw := by
  cases v with
  | num n =>
   have hv' : c = .int .i64 n := hv;rw [hv'] at hc;exact N2 cells n w hc hw.1
  | _ => cases hk
 reads lo w g ge r cells hb hr hl hy h3 hge hne hi := (Oq g ge r cells w hr hl hy h3 hge hne hi).mono fun e w' h => ⟨h.1, h.2.mono fun W c h => h⟩
def Hz : Fld := ⟨[117, 115, 101, 114, 115], 218, 221, #[], #[], []⟩
theorem Nk : FldS 17 .usrs Hz where
 entF := enters_of Tryz.func218 (by kernel_rfl) rfl
 entG := enters_of Tryz.func221 (by kernel_rfl) rfl
 writes lo w cells c v ok hb hc hv hk hw := by
  cases v with
  | usrs l =>
   obtain ⟨A, cap, rfl, hR, _⟩ := hv;exact NW cells A cap l w hc hR (fun x hx => ⟨hw.2.2.2 x hx, hw.1 x hx⟩) hw.2.2.1 hw.2.1
  | _ => cases hk
 reads lo w g ge r cells hb hr hl hy h3 hge hne hi := (Oy g ge r cells w hr hl hy h3 hge hne hi).mono fun e w' h => ⟨h.1, h.2.mono fun W c h => SlcOf.of_own h⟩
def Il : Fld := ⟨[107, 105, 110, 100, 115], 224, 227, #[], #[], []⟩
theorem NR : FldS 18 .knds Il where
 entF := enters_of Tryz.func224 (by kernel_rfl) rfl
 entG := enters_of Tryz.func227 (by kernel_rfl) rfl
 writes lo w cells c v ok hb hc hv hk hw := by
  cases v with
  | knds l =>
   obtain ⟨A, cap, rfl, hR, _⟩ := hv;exact Nj cells A cap l w hc hR hw.1 hw.2.2 hw.2.1
  | _ => cases hk
 reads lo w g ge r cells hb hr hl hy h3 hge hne hi := (NI g ge r cells w hr hl hy h3 hge hne hi).mono fun e w' h => ⟨h.1, h.2.mono fun W c h => SlcOf.of_own h⟩
def FldAt (i : Nat) (f : Fld) : Prop := ∃ nk, Ar.NK[i]? = some nk ∧ f.nm = nk.1 ∧ FldS i nk.2 f
def AllF (base : Nat) (w : World) : Nat → List Fld → Prop
 | _, [] => True
 | i, f :: r => (FldAt i f ∧ f.Boxed base w) ∧ AllF base w (i + 1) r
theorem AllF.at {base : Nat} {w : World} : ∀ {l : List Fld} {i j : Nat} {f : Fld}, AllF base w i l → l[j]? = some f → FldAt (i + j) f ∧ f.Boxed base w
 | [], _, _, _, _, h => by simp at h
 | a :: l, i, 0, f, h, e => by
  simp at e;subst e;exact h.1
 | a :: l, i, j + 1, f, h, e => by
  have := AllF.at h.2 (j := j) (by simpa using e);rwa [show i + 1 + j = i + (j + 1) from by omega] at this
theorem AllF.mono {base base' : Nat} {w w' : World} (hb : base' ≤ base) (hk : ∀ a v, w.cell? a = some v → w'.cell? a = some v) : ∀ {l : List Fld} {i : Nat}, AllF base w i l → AllF base' w' i l
 | [], _, _ => trivial
 | f :: l, i, h => ⟨⟨h.1.1, fun p hp => ⟨Nat.le_trans hb (h.1.2 p hp).1, hk _ _ (h.1.2 p hp).2⟩⟩, AllF.mono hb hk h.2⟩
theorem AllF.append {base : Nat} {w : World} : ∀ {l m : List Fld} {i : Nat}, AllF base w i l → AllF base w (i + l.length) m → AllF base w i (l ++ m)
 | [], _, _, _, h => h
 | f :: l, m, i, h, h2 => ⟨h.1, AllF.append h.2 (by rwa [show i + 1 + l.length = i + (f :: l).length from by rw [List.length_cons]; omega])⟩
theorem BP {base b : Nat} {w : World} {v : Value} {nm : List UInt8} {F G : FuncId} {cf cg : Array Value} (hb : base ≤ b) (h : w.cell? ⟨b, 0, none⟩ = some v) : (⟨nm, F, G, cf, cg, [(⟨b, 0, none⟩, v)]⟩ : Fld).Boxed base w := fun p hp => by
 rw [List.mem_singleton.1 hp];exact ⟨hb, h⟩
theorem Qk {base b c : Nat} {w : World} {v u : Value} {nm : List UInt8} {F G : FuncId} {cf cg : Array Value} (hb : base ≤ b) (h : w.cell? ⟨b, 0, none⟩ = some v) (hc : base ≤ c) (k : w.cell? ⟨c, 0, none⟩ = some u) : (⟨nm, F, G, cf, cg, [(⟨b, 0, none⟩, v), (⟨c, 0, none⟩, u)]⟩ : Fld).Boxed base w := fun p hp => by
 rcases List.mem_cons.1 hp with rfl | hp
 ·exact ⟨hb, h⟩
 ·rw [List.mem_singleton.1 hp];exact ⟨hc, k⟩
theorem LE {base : Nat} {w : World} {nm : List UInt8} {F G : FuncId} {cf cg : Array Value} : (⟨nm, F, G, cf, cg, []⟩ : Fld).Boxed base w := fun p hp => by cases hp
theorem Fld.one (f : Fld) : ∀ u ∈ f.vals, u.oneCell' = true := by
 intro u hu;unfold Fld.vals at hu;simp only [List.mem_cons, List.not_mem_nil, or_false] at hu;rcases hu with rfl | rfl | rfl <;> rfl
theorem KQ : ∀ l : List Fld, (l.flatMap Fld.vals).length = l.length * 3
 | [] => rfl
 | f :: l => by
  rw [List.flatMap_cons, List.length_append, KQ l, List.length_cons];show 3 + _ = _;omega
theorem PK (l : List Fld) : ∀ u ∈ l.flatMap Fld.vals, u.oneCell' = true := by
 intro u hu;obtain ⟨f, _, h⟩ := List.mem_flatMap.1 hu;exact f.one u h
def FRes (w : World) (i n : Nat) (e : Ending) (w' : World) : Prop :=
 ∃ (g : Nat) (L : List Fld), e = .returned (.slice (some ⟨g, 0, none⟩) n n) ∧ L.length = n ∧ w.heap.size ≤ g ∧ Rd w' (some ⟨g, 0, none⟩) (n * 3) (L.flatMap Fld.vals) ∧ AllF w.heap.size w' i L ∧ Below w.heap.size w w'
theorem PV (w0 : World) : Calls Tryz.prog 103 #[] w0 (FRes w0 0 10) := by
 go_enter Tryz.func103, Tryz.ntmps103;go_wp2_with fail;refine (Cm _ _ _).mono ?_;rintro e w1 ⟨rfl, hb, hx⟩;have B1 := hid hb;have X1 := hid hx;clear hb hx;go_wp2_with fail;refine (El _ _ _).mono ?_;rintro e w2 ⟨rfl, hb, hx⟩;have B2 := hid hb;have X2 := hid hx;clear hb hx;go_wp2_with fail;refine (El _ _ _).mono ?_;rintro e w3 ⟨rfl, hb, hx⟩;have B3 := hid hb;have X3 := hid hx;clear hb hx;go_wp2_with fail;refine (Na _).mono ?_;rintro e w4 ⟨rfl, hb⟩;have B4 := hid hb;clear hb;go_wp2_with fail;refine (JB _ _ _).mono ?_;rintro e w5 ⟨rfl, hb, hx⟩;have B5 := hid hb;have X5 := hid hx;clear hb hx;go_wp2_with fail;refine (El _ _ _).mono ?_;rintro e w6 ⟨rfl, hb, hx⟩;have B6 := hid hb;have X6 := hid hx;clear hb hx;go_wp2_with fail;refine (Cm _ _ _).mono ?_;rintro e w7 ⟨rfl, hb, hx⟩;have B7 := hid hb;have X7 := hid hx;clear hb hx;go_wp2_with fail;refine (Cm _ _ _).mono ?_;rintro e w8 ⟨rfl, hb, hx⟩;have B8 := hid hb;have X8 := hid hx;clear hb hx;go_wp2_with fail;refine (Jd _ _ _).mono ?_;rintro e w9 ⟨rfl, hb, hx⟩;have B9 := hid hb;have X9 := hid hx;clear hb hx;go_wp2_with fail;refine (Jd _ _ _).mono ?_;rintro e w10 ⟨rfl, hb, hx⟩;have B10 := hid hb;have X10 := hid hx;clear hb hx;go_wp2_with fail;have E0 : Hid (w0.heap.size ≤ w0.heap.size) := hid (Nat.le_refl _);have E1 : Hid (w0.heap.size ≤ w1.heap.size) := hid (Nat.le_trans E0.out B1.out.size);have E2 : Hid (w0.heap.size ≤ w2.heap.size) := hid (Nat.le_trans E1.out B2.out.size);have E3 : Hid (w0.heap.size ≤ w3.heap.size) := hid (Nat.le_trans E2.out B3.out.size);have E4 : Hid (w0.heap.size ≤ w4.heap.size) := hid (Nat.le_trans E3.out B4.out.size);have E5 : Hid (w0.heap.size ≤ w5.heap.size) := hid (Nat.le_trans E4.out B5.out.size);have E6 : Hid (w0.heap.size ≤ w6.heap.size) := hid (Nat.le_trans E5.out B6.out.size);have E7 : Hid (w0.heap.size ≤ w7.heap.size) := hid (Nat.le_trans E6.out B7.out.size);have E8 : Hid (w0.heap.size ≤ w8.heap.size) := hid (Nat.le_trans E7.out B8.out.size);have E9 : Hid (w0.heap.size ≤ w9.heap.size) := hid (Nat.le_trans E8.out B9.out.size);have E10 : Hid (w0.heap.size ≤ w10.heap.size) := hid (Nat.le_trans E9.out B10.out.size);have HG : Hid (Blk (w10.alloc (.cells (List.flatMap Fld.vals [mkNum [105, 100] 160 w0.heap.size, mkTxt [114, 111, 111, 109] 161 w1.heap.size, mkTxt [115, 101, 110, 100, 101, 114] 162 w2.heap.size, Ie, mkFlg [115, 116, 97, 116, 101] 165 w4.heap.size, mkTxt [107, 101, 121] 166 w5.heap.size, mkNum [116, 105, 109, 101] 167 w6.heap.size, mkNum [100, 101, 112, 116, 104] 168 w7.heap.size, EV [112, 114, 101, 118] 170 w8.heap.size, EV [97, 117, 116, 104] 171 w9.heap.size]).toArray 82)) w10.heap.size 82 (List.flatMap Fld.vals [mkNum [105, 100] 160 w0.heap.size, mkTxt [114, 111, 111, 109] 161 w1.heap.size, mkTxt [115, 101, 110, 100, 101, 114] 162 w2.heap.size, Ie, mkFlg [115, 116, 97, 116, 101] 165 w4.heap.size, mkTxt [107, 101, 121] 166 w5.heap.size, mkNum [116, 105, 109, 101] 167 w6.heap.size, mkNum [100, 101, 112, 116, 104] 168 w7.heap.size, EV [112, 114, 101, 118] 170 w8.heap.size, EV [97, 117, 116, 104] 171 w9.heap.size]).toArray) := hid (Blk.new _ _ _);have D10 : Hid (Below w10.heap.size w10 (w10.alloc (.cells (List.flatMap Fld.vals [mkNum [105, 100] 160 w0.heap.size, mkTxt [114, 111, 111, 109] 161 w1.heap.size, mkTxt [115, 101, 110, 100, 101, 114] 162 w2.heap.size, Ie, mkFlg [115, 116, 97, 116, 101] 165 w4.heap.size, mkTxt [107, 101, 121] 166 w5.heap.size, mkNum [116, 105, 109, 101] 167 w6.heap.size, mkNum [100, 101, 112, 116, 104] 168 w7.heap.size, EV [112, 114, 101, 118] 170 w8.heap.size, EV [97, 117, 116, 104] 171 w9.heap.size]).toArray 82))) := hid ((Below.refl _ _).alloc (Nat.le_refl _) _);have D9 := hid (B10.out.trans (D10.out.mono B10.out.size));have D8 := hid (B9.out.trans (D9.out.mono B9.out.size));have D7 := hid (B8.out.trans (D8.out.mono B8.out.size));have D6 := hid (B7.out.trans (D7.out.mono B7.out.size));have D5 := hid (B6.out.trans (D6.out.mono B6.out.size));have D4 := hid (B5.out.trans (D5.out.mono B5.out.size));have D3 := hid (B4.out.trans (D4.out.mono B4.out.size));have D2 := hid (B3.out.trans (D3.out.mono B3.out.size));have D1 := hid (B2.out.trans (D2.out.mono B2.out.size));have D0 := hid (B1.out.trans (D1.out.mono B1.out.size));go_ret;exact ⟨w10.heap.size, [mkNum [105, 100] 160 w0.heap.size, mkTxt [114, 111, 111, 109] 161 w1.heap.size, mkTxt [115, 101, 110, 100, 101, 114] 162 w2.heap.size, Ie, mkFlg [115, 116, 97, 116, 101] 165 w4.heap.size, mkTxt [107, 101, 121] 166 w5.heap.size, mkNum [116, 105, 109, 101] 167 w6.heap.size, mkNum [100, 101, 112, 116, 104] 168 w7.heap.size, EV [112, 114, 101, 118] 170 w8.heap.size, EV [97, 117, 116, 104] 171 w9.heap.size], rfl, rfl, E10.out, Rd.of_blk HG.out, ⟨⟨⟨_, rfl, rfl, Cl _ _ acc0⟩, BP E0.out (Ai X1.out D1.out)⟩, ⟨⟨⟨_, rfl, rfl, Eh _ _ acc1⟩, BP E1.out (Ai X2.out D2.out)⟩, ⟨⟨⟨_, rfl, rfl, Eh _ _ acc2⟩, BP E2.out (Ai X3.out D3.out)⟩, ⟨⟨⟨_, rfl, rfl, OD⟩, LE⟩, ⟨⟨⟨_, rfl, rfl, KD _ _ acc4⟩, Qk (by have := E4.out; omega) (Ai X5.out.1 D5.out) E4.out (Ai X5.out.2 D5.out)⟩, ⟨⟨⟨_, rfl, rfl, Eh _ _ acc5⟩, BP E5.out (Ai X6.out D6.out)⟩, ⟨⟨⟨_, rfl, rfl, Cl _ _ acc6⟩, BP E6.out (Ai X7.out D7.out)⟩, ⟨⟨⟨_, rfl, rfl, Cl _ _ acc7⟩, BP E7.out (Ai X8.out D8.out)⟩, ⟨⟨⟨_, rfl, rfl, Jw _ _ acc8⟩, BP E8.out (Ai X9.out D9.out)⟩, ⟨⟨⟨_, rfl, rfl, Jw _ _ acc9⟩, BP E9.out (Ai X10.out D10.out)⟩, trivial⟩⟩⟩⟩⟩⟩⟩⟩⟩⟩, D0.out⟩
theorem KE (w0 : World) : Calls Tryz.prog 104 #[] w0 (FRes w0 10 16) := by
 go_enter Tryz.func104, Tryz.ntmps104;go_wp2_with fail;refine (El _ _ _).mono ?_;rintro e w1 ⟨rfl, hb, hx⟩;have B1 := hid hb;have X1 := hid hx;clear hb hx;go_wp2_with fail;refine (Cm _ _ _).mono ?_;rintro e w2 ⟨rfl, hb, hx⟩;have B2 := hid hb;have X2 := hid hx;clear hb hx;go_wp2_with fail;refine (Cm _ _ _).mono ?_;rintro e w3 ⟨rfl, hb, hx⟩;have B3 := hid hb;have X3 := hid hx;clear hb hx;go_wp2_with fail;refine (JB _ _ _).mono ?_;rintro e w4 ⟨rfl, hb, hx⟩;have B4 := hid hb;have X4 := hid hx;clear hb hx;go_wp2_with fail;refine (El _ _ _).mono ?_;rintro e w5 ⟨rfl, hb, hx⟩;have B5 := hid hb;have X5 := hid hx;clear hb hx;go_wp2_with fail;refine (Jt _ _ _).mono ?_;rintro e w6 ⟨rfl, hb, hx⟩;have B6 := hid hb;have X6 := hid hx;clear hb hx;go_wp2_with fail;refine (Jt _ _ _).mono ?_;rintro e w7 ⟨rfl, hb, hx⟩;have B7 := hid hb;have X7 := hid hx;clear hb hx;go_wp2_with fail;refine (Ol _).mono ?_;rintro e w8 ⟨rfl, hb⟩;have B8 := hid hb;clear hb;go_wp2_with fail;refine (N1 _).mono ?_;rintro e w9 ⟨rfl, hb⟩;have B9 := hid hb;clear hb;go_wp2_with fail;refine (Cm _ _ _).mono ?_;rintro e w10 ⟨rfl, hb, hx⟩;have B10 := hid hb;have X10 := hid hx;clear hb hx;go_wp2_with fail;refine (Cm _ _ _).mono ?_;rintro e w11 ⟨rfl, hb, hx⟩;have B11 := hid hb;have X11 := hid hx;clear hb hx;go_wp2_with fail;refine (Cm _ _ _).mono ?_;rintro e w12 ⟨rfl, hb, hx⟩;have B12 := hid hb;have X12 := hid hx;clear hb hx;go_wp2_with fail;refine (Cm _ _ _).mono ?_;rintro e w13 ⟨rfl, hb, hx⟩;have B13 := hid hb;have X13 := hid hx;clear hb hx;go_wp2_with fail;refine (Cm _ _ _).mono ?_;rintro e w14 ⟨rfl, hb, hx⟩;have B14 := hid hb;have X14 := hid hx;clear hb hx;go_wp2_with fail;refine (Cm _ _ _).mono ?_;rintro e w15 ⟨rfl, hb, hx⟩;have B15 := hid hb;have X15 := hid hx;clear hb hx;go_wp2_with fail;refine (Cm _ _ _).mono ?_;rintro e w16 ⟨rfl, hb, hx⟩;have B16 := hid hb;have X16 := hid hx;clear hb hx;go_wp2_with fail;have E0 : Hid (w0.heap.size ≤ w0.heap.size) := hid (Nat.le_refl _);have E1 : Hid (w0.heap.size ≤ w1.heap.size) := hid (Nat.le_trans E0.out B1.out.size);have E2 : Hid (w0.heap.size ≤ w2.heap.size) := hid (Nat.le_trans E1.out B2.out.size);have E3 : Hid (w0.heap.size ≤ w3.heap.size) := hid (Nat.le_trans E2.out B3.out.size);have E4 : Hid (w0.heap.size ≤ w4.heap.size) := hid (Nat.le_trans E3.out B4.out.size);have E5 : Hid (w0.heap.size ≤ w5.heap.size) := hid (Nat.le_trans E4.out B5.out.size);have E6 : Hid (w0.heap.size ≤ w6.heap.size) := hid (Nat.le_trans E5.out B6.out.size);have E7 : Hid (w0.heap.size ≤ w7.heap.size) := hid (Nat.le_trans E6.out B7.out.size);have E8 : Hid (w0.heap.size ≤ w8.heap.size) := hid (Nat.le_trans E7.out B8.out.size);have E9 : Hid (w0.heap.size ≤ w9.heap.size) := hid (Nat.le_trans E8.out B9.out.size);have E10 : Hid (w0.heap.size ≤ w10.heap.size) := hid (Nat.le_trans E9.out B10.out.size);have E11 : Hid (w0.heap.size ≤ w11.heap.size) := hid (Nat.le_trans E10.out B11.out.size);have E12 : Hid (w0.heap.size ≤ w12.heap.size) := hid (Nat.le_trans E11.out B12.out.size);have E13 : Hid (w0.heap.size ≤ w13.heap.size) := hid (Nat.le_trans E12.out B13.out.size);have E14 : Hid (w0.heap.size ≤ w14.heap.size) := hid (Nat.le_trans E13.out B14.out.size);have E15 : Hid (w0.heap.size ≤ w15.heap.size) := hid (Nat.le_trans E14.out B15.out.size);have E16 : Hid (w0.heap.size ≤ w16.heap.size) := hid (Nat.le_trans E15.out B16.out.size);have HG : Hid (Blk (w16.alloc (.cells (List.flatMap Fld.vals [mkTxt [116, 101, 120, 116] 172 w0.heap.size, mkNum [110] 173 w1.heap.size, mkNum [116, 97, 114, 103, 101, 116] 174 w2.heap.size, mkFlg [116, 104, 114, 101, 97, 100] 175 w3.heap.size, mkTxt [118, 105, 97] 176 w4.heap.size, EO [97, 108, 108, 111, 119] 178 w5.heap.size, EO [100, 101, 110, 121] 179 w6.heap.size, Hz, Il, mkNum [117, 115, 101, 114] 182 w9.heap.size, mkNum [109, 101, 115, 115, 97, 103, 101] 183 w10.heap.size, mkNum [115, 116, 97, 116, 101, 115] 184 w11.heap.size, mkNum [105, 110, 118, 105, 116, 101] 185 w12.heap.size, mkNum [107, 105, 99, 107] 186 w13.heap.size, mkNum [98, 97, 110] 187 w14.heap.size, mkNum [114, 101, 100, 97, 99, 116] 188 w15.heap.size]).toArray 82)) w16.heap.size 82 (List.flatMap Fld.vals [mkTxt [116, 101, 120, 116] 172 w0.heap.size, mkNum [110] 173 w1.heap.size, mkNum [116, 97, 114, 103, 101, 116] 174 w2.heap.size, mkFlg [116, 104, 114, 101, 97, 100] 175 w3.heap.size, mkTxt [118, 105, 97] 176 w4.heap.size, EO [97, 108, 108, 111, 119] 178 w5.heap.size, EO [100, 101, 110, 121] 179 w6.heap.size, Hz, Il, mkNum [117, 115, 101, 114] 182 w9.heap.size, mkNum [109, 101, 115, 115, 97, 103, 101] 183 w10.heap.size, mkNum [115, 116, 97, 116, 101, 115] 184 w11.heap.size, mkNum [105, 110, 118, 105, 116, 101] 185 w12.heap.size, mkNum [107, 105, 99, 107] 186 w13.heap.size, mkNum [98, 97, 110] 187 w14.heap.size, mkNum [114, 101, 100, 97, 99, 116] 188 w15.heap.size]).toArray) := hid (Blk.new _ _ _);have D16 : Hid (Below w16.heap.size w16 (w16.alloc (.cells (List.flatMap Fld.vals [mkTxt [116, 101, 120, 116] 172 w0.heap.size, mkNum [110] 173 w1.heap.size, mkNum [116, 97, 114, 103, 101, 116] 174 w2.heap.size, mkFlg [116, 104, 114, 101, 97, 100] 175 w3.heap.size, mkTxt [118, 105, 97] 176 w4.heap.size, EO [97, 108, 108, 111, 119] 178 w5.heap.size, EO [100, 101, 110, 121] 179 w6.heap.size, Hz, Il, mkNum [117, 115, 101, 114] 182 w9.heap.size, mkNum [109, 101, 115, 115, 97, 103, 101] 183 w10.heap.size, mkNum [115, 116, 97, 116, 101, 115] 184 w11.heap.size, mkNum [105, 110, 118, 105, 116, 101] 185 w12.heap.size, mkNum [107, 105, 99, 107] 186 w13.heap.size, mkNum [98, 97, 110] 187 w14.heap.size, mkNum [114, 101, 100, 97, 99, 116] 188 w15.heap.size]).toArray 82))) := hid ((Below.refl _ _).alloc (Nat.le_refl _) _);have D15 := hid (B16.out.trans (D16.out.mono B16.out.size));have D14 := hid (B15.out.trans (D15.out.mono B15.out.size));have D13 := hid (B14.out.trans (D14.out.mono B14.out.size));have D12 := hid (B13.out.trans (D13.out.mono B13.out.size));have D11 := hid (B12.out.trans (D12.out.mono B12.out.size));have D10 := hid (B11.out.trans (D11.out.mono B11.out.size));have D9 := hid (B10.out.trans (D10.out.mono B10.out.size));have D8 := hid (B9.out.trans (D9.out.mono B9.out.size));have D7 := hid (B8.out.trans (D8.out.mono B8.out.size));have D6 := hid (B7.out.trans (D7.out.mono B7.out.size));have D5 := hid (B6.out.trans (D6.out.mono B6.out.size));have D4 := hid (B5.out.trans (D5.out.mono B5.out.size));have D3 := hid (B4.out.trans (D4.out.mono B4.out.size));have D2 := hid (B3.out.trans (D3.out.mono B3.out.size));have D1 := hid (B2.out.trans (D2.out.mono B2.out.size));have D0 := hid (B1.out.trans (D1.out.mono B1.out.size));go_ret;exact ⟨w16.heap.size, [mkTxt [116, 101, 120, 116] 172 w0.heap.size, mkNum [110] 173 w1.heap.size, mkNum [116, 97, 114, 103, 101, 116] 174 w2.heap.size, mkFlg [116, 104, 114, 101, 97, 100] 175 w3.heap.size, mkTxt [118, 105, 97] 176 w4.heap.size, EO [97, 108, 108, 111, 119] 178 w5.heap.size, EO [100, 101, 110, 121] 179 w6.heap.size, Hz, Il, mkNum [117, 115, 101, 114] 182 w9.heap.size, mkNum [109, 101, 115, 115, 97, 103, 101] 183 w10.heap.size, mkNum [115, 116, 97, 116, 101, 115] 184 w11.heap.size, mkNum [105, 110, 118, 105, 116, 101] 185 w12.heap.size, mkNum [107, 105, 99, 107] 186 w13.heap.size, mkNum [98, 97, 110] 187 w14.heap.size, mkNum [114, 101, 100, 97, 99, 116] 188 w15.heap.size], rfl, rfl, E16.out, Rd.of_blk HG.out, ⟨⟨⟨_, rfl, rfl, Eh _ _ acc10⟩, BP E0.out (Ai X1.out D1.out)⟩, ⟨⟨⟨_, rfl, rfl, Cl _ _ acc11⟩, BP E1.out (Ai X2.out D2.out)⟩, ⟨⟨⟨_, rfl, rfl, Cl _ _ acc12⟩, BP E2.out (Ai X3.out D3.out)⟩, ⟨⟨⟨_, rfl, rfl, KD _ _ acc13⟩, Qk (by have := E3.out; omega) (Ai X4.out.1 D4.out) E3.out (Ai X4.out.2 D4.out)⟩, ⟨⟨⟨_, rfl, rfl, Eh _ _ acc14⟩, BP E4.out (Ai X5.out D5.out)⟩, ⟨⟨⟨_, rfl, rfl, Jj _ _ acc15⟩, BP E5.out (Ai X6.out D6.out)⟩, ⟨⟨⟨_, rfl, rfl, Jj _ _ acc16⟩, BP E6.out (Ai X7.out D7.out)⟩, ⟨⟨⟨_, rfl, rfl, Nk⟩, LE⟩, ⟨⟨⟨_, rfl, rfl, NR⟩, LE⟩, ⟨⟨⟨_, rfl, rfl, Cl _ _ acc19⟩, BP E9.out (Ai X10.out D10.out)⟩, ⟨⟨⟨_, rfl, rfl, Cl _ _ acc20⟩, BP E10.out (Ai X11.out D11.out)⟩, ⟨⟨⟨_, rfl, rfl, Cl _ _ acc21⟩, BP E11.out (Ai X12.out D12.out)⟩, ⟨⟨⟨_, rfl, rfl, Cl _ _ acc22⟩, BP E12.out (Ai X13.out D13.out)⟩, ⟨⟨⟨_, rfl, rfl, Cl _ _ acc23⟩, BP E13.out (Ai X14.out D14.out)⟩, ⟨⟨⟨_, rfl, rfl, Cl _ _ acc24⟩, BP E14.out (Ai X15.out D15.out)⟩, ⟨⟨⟨_, rfl, rfl, Cl _ _ acc25⟩, BP E15.out (Ai X16.out D16.out)⟩, trivial⟩⟩⟩⟩⟩⟩⟩⟩⟩⟩⟩⟩⟩⟩⟩⟩, D0.out⟩
def R5 (w : World) (e : Ending) (w' : World) : Prop :=
 ∃ (A : Option Addr) (cap : Nat) (L : List Fld), e = .returned (.slice A 29 cap) ∧ L.length = 29 ∧ w'.ownsRow w.heap.size 82 3 (.slice A 29 cap) 29 (L.flatMap Fld.vals) ∧ AllF w.heap.size w' 0 L ∧ Below w.heap.size w w'
theorem LC {w : World} {g n : Nat} {L : List Fld} (h : Rd w (some ⟨g, 0, none⟩) (n * 3) (L.flatMap Fld.vals)) : (⟨g, n, n, L.flatMap Fld.vals⟩ : Src).Ok w := ⟨h, PK L⟩
theorem IN (w0 : World) : Calls Tryz.prog 47 #[] w0 (R5 w0) := by
 go_enter Tryz.func47, Tryz.ntmps47;go_wp2_with fail;refine (PV _).mono ?_;rintro e w1 ⟨g1, L1, rfl, hl1, hg1, hr1, ha1, hb⟩;have B1 := hid hb;have R1 := hid hr1;have A1 := hid ha1;clear hb hr1 ha1;go_wp2_with fail;refine (KE _).mono ?_;rintro e w2 ⟨g2, L2, rfl, hl2, hg2, hr2, ha2, hb⟩;have B2 := hid hb;have R2 := hid hr2;have A2 := hid ha2;clear hb hr2 ha2;go_wp2_with fail;refine (Cm _ _ _).mono ?_;rintro e w3 ⟨rfl, hb, hx⟩;have B3 := hid hb;have X3 := hid hx;clear hb hx;go_wp2_with fail;refine (El _ _ _).mono ?_;rintro e w4 ⟨rfl, hb, hx⟩;have B4 := hid hb;have X4 := hid hx;clear hb hx;go_wp2_with fail;refine (Cm _ _ _).mono ?_;rintro e w5 ⟨rfl, hb, hx⟩;have B5 := hid hb;have X5 := hid hx;clear hb hx;obtain ⟨L3, hL3⟩ : ∃ L3, L3 = [mkNum [104, 97, 115, 104] 106 w2.heap.size, mkTxt [115, 101, 114, 118, 101, 114] 108 w3.heap.size, mkNum [115, 117, 109] 109 w4.heap.size] := ⟨_, rfl⟩;obtain ⟨l, hl⟩ : ∃ l : List Src, l = [⟨g1, 10, 10, L1.flatMap Fld.vals⟩, ⟨g2, 16, 16, L2.flatMap Fld.vals⟩, ⟨w5.heap.size, 3, 3, L3.flatMap Fld.vals⟩] := ⟨_, rfl⟩;have S1 := hid B1.out.size;have S2 := hid (Nat.le_trans S1.out B2.out.size);have S3 := hid (Nat.le_trans S2.out B3.out.size);have S4 := hid (Nat.le_trans S3.out B4.out.size);have S5 := hid (Nat.le_trans S4.out B5.out.size);obtain ⟨w6, hw6⟩ : ∃ w6, w6 = w5.alloc (.cells (L3.flatMap Fld.vals).toArray 82) := ⟨_, rfl⟩;obtain ⟨w7, hw7⟩ : ∃ w7, w7 = w6.alloc (.cells (l.map Src.val).toArray 78) := ⟨_, rfl⟩;have z6 : w6.heap.size = w5.heap.size + 1 := by rw [hw6]; simp
 have D7 : Hid (Below w6.heap.size w6 w7) := hid (by rw [hw7]; exact (Below.refl _ _).alloc (Nat.le_refl _) _);have D6 : Hid (Below w5.heap.size w5 w7) := hid (by rw [hw6] at D7; exact ((Below.refl _ _).alloc (Nat.le_refl _) _).trans (D7.out.mono (by simp)));have D5 := hid (B5.out.trans (D6.out.mono B5.out.size));have D4 := hid (B4.out.trans (D5.out.mono B4.out.size));have D3 := hid (B3.out.trans (D4.out.mono B3.out.size));have D2 := hid (B2.out.trans (D3.out.mono B2.out.size));have D1 := hid (B1.out.trans (D2.out.mono B1.out.size))
 have R3 : Hid (Rd w6 (some ⟨w5.heap.size, 0, none⟩) (3 * 3) (L3.flatMap Fld.vals)) := hid (by
  have h := Rd.of_blk (w := w6) (g := w5.heap.size) (t := 82) (vs := L3.flatMap Fld.vals) (by rw [hw6]; exact Blk.new _ _ _)
  rwa [KQ, show L3.length = 3 from by rw [hL3]; rfl] at h)
 have RQ : Hid (Rd w7 (some ⟨w6.heap.size, 0, none⟩) l.length (l.map Src.val)) := hid (by
  have h := Rd.of_blk (w := w7) (g := w6.heap.size) (t := 78) (vs := l.map Src.val) (by rw [hw7]; exact Blk.new _ _ _)
  rwa [List.length_map] at h)
 have OK : Hid (∀ s ∈ l, s.Ok w7) := hid (by
  intro s hs;rw [hl] at hs;rcases List.mem_cons.1 hs with rfl | hs
  ·exact LC (R1.out.below D2.out)
  ·rcases List.mem_cons.1 hs with rfl | hs
   ·exact LC (R2.out.below D3.out)
   ·rw [List.mem_singleton.1 hs]
    exact LC (R3.out.below D7.out))
 have ALL : Hid (AllF w0.heap.size w7 0 (L1 ++ L2 ++ L3)) := hid (by
  have a1 := A1.out.mono (Nat.le_refl _) (fun a v h => Ai h D2.out);have a2 := A2.out.mono S1.out (fun a v h => Ai h D3.out);refine (a1.append (by rw [hl1]; exact a2)).append ?_;rw [List.length_append, hl1, hl2, hL3]
  exact ⟨⟨⟨_, rfl, rfl, Cl _ _ acc26⟩, BP S2.out (Ai X3.out D4.out)⟩, ⟨⟨_, rfl, rfl, Eh _ _ acc27⟩, BP S3.out (Ai X4.out D5.out)⟩, ⟨⟨_, rfl, rfl, Cl _ _ acc28⟩, BP S4.out (Ai X5.out D6.out)⟩, trivial⟩)
 have HLEN : Hid ((L1 ++ L2 ++ L3).length = 29) := hid (by rw [List.length_append, List.length_append, hl1, hl2, hL3]; rfl);have hC := Mw w6.heap.size 3 l w7 RQ.out OK.out (by rw [hl]; exact (by decide : 0 < 10 + (16 + (3 + 0)))) (by rw [hl]; exact (by decide : 10 + (16 + (3 + 0)) ≤ 1000)) (by rw [hl]; exact (by decide : 3 ≤ 1000));have hsum : sumN l = 29 := by rw [hl]; rfl
 have hflat : l.flatMap (·.vs) = (L1 ++ L2 ++ L3).flatMap Fld.vals := by rw [hl, List.flatMap_append, List.flatMap_append]; simp
 rw [hsum, hflat, z6] at hC;have hw7e : w7 = (w5.alloc (.cells (L3.flatMap Fld.vals).toArray 82)).alloc (.cells (l.map Src.val).toArray 78) := by rw [hw7, hw6]
 have HW7 := hid hw7e;have HC := hid hC;have HL := hid hl;have HL3 := hid hL3;have HW6 := hid hw6;clear hw7e hw7 hC hl hL3 hw6 hsum hflat;go_wp2_with fail;have e1 := HL3.out;have e2 := HL.out;have e3 := HW7.out;subst e1 e2 e3;refine (HC.out).mono ?_;rintro e w8 ⟨⟨v, rfl, ho⟩, hb⟩;have HO := hid ho;have HB := hid hb;obtain ⟨Av, cv, rfl⟩ := Ax ho;clear ho hb;go_wp2_with fail;go_ret;have hz : w0.heap.size ≤ (World.heap _).size := D1.out.size;exact ⟨Av, cv, _, rfl, HLEN.out, FL HO.out hz, ALL.out.mono (Nat.le_refl _) (fun a v h => Ai h HB.out), D1.out.trans (HB.out.mono hz)⟩
end Go.Proofs.YteadlcncnhbmjaaGreatDoor
