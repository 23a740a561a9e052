/- The texts Ue, Ur, Yb of this proof, one behind the other. -/
import Derived.Test.YtchkiegehejfmaaGreatDoorMsaj
import Derived.Test.YtchkiegehejfmaaGreatDoorMsah
import Derived.Test.YtchkiegehejfmaaGreatDoorMsaf
set_option linter.unusedSimpArgs false
set_option maxHeartbeats 16000000
set_option maxRecDepth 100000
set_option linter.unusedVariables false
namespace Go.Proofs.YtchkiegehejfmaaGreatDoor
open Go.RowKit Go.Lib
theorem Cp (x y : List UInt8) : ((bstr x).toList == (bstr y).toList) = (x == y) := by rw [Lib.toList_data, Lib.toList_data]; rfl
theorem Be : ∀ (m : Nat) (ok ok' : Nat → Prop) (a b : Pr.Cn) (V V' : Array Value) (w : World), Pr.nodes a ≤ m → m ≤ 1000000 → CnV w ok V a → CnV w ok' V' b → Calls Tryz.prog 20 #[.agg V, .agg V'] w fun e w' => e = .returned (.bool (Pr.same a b)) ∧ Below w.heap.size w w'
 | 0, ok, ok', a, b, V, V', w, hm, _, h, h' => absurd hm (by have := Pr.nodes_pos a; omega)
 | m + 1, ok, ok', a, b, V, V', w, hm, hm6, h, h' => by
  have hb2 := ((Below.refl w.heap.size w).alloc (Nat.le_refl _) (.cells V 36)).alloc (by rw [World.size_alloc]; exact Nat.le_succ _) (.cells V' 36);have hV := h.bel hb2;have hV' := h'.bel hb2;have hne := Pr.nodes_eq a;have hkl := Pr.kids_nodes a.kids;obtain ⟨A, ca, rfl, hrow⟩ := hV.open;obtain ⟨B, cb, rfl, hrow'⟩ := hV'.open;have hk1 : Blk ((w.alloc (.cells #[.int .i64 a.op, .string (bstr a.text), .int .i64 a.num, .slice A a.kids.length ca] 36)).alloc (.cells #[.int .i64 b.op, .string (bstr b.text), .int .i64 b.num, .slice B b.kids.length cb] 36)) w.heap.size 36 #[.int .i64 a.op, .string (bstr a.text), .int .i64 a.num, .slice A a.kids.length ca] := (Blk.new w 36 _).alloc _;have hk2 : Blk ((w.alloc (.cells #[.int .i64 a.op, .string (bstr a.text), .int .i64 a.num, .slice A a.kids.length ca] 36)).alloc (.cells #[.int .i64 b.op, .string (bstr b.text), .int .i64 b.num, .slice B b.kids.length cb] 36)) (w.heap.size + 1) 36 #[.int .i64 b.op, .string (bstr b.text), .int .i64 b.num, .slice B b.kids.length cb] := by have := Blk.new (w.alloc (.cells #[.int .i64 a.op, .string (bstr a.text), .int .i64 a.num, .slice A a.kids.length ca] 36)) 36 #[.int .i64 b.op, .string (bstr b.text), .int .i64 b.num, .slice B b.kids.length cb]; rwa [World.size_alloc] at this
  have hso := Pr.same_open a b;have HB1 := hid hb2;have HR1 := hid hrow;have HR2 := hid hrow';have hx0 := hk1.cell 0;have hx1 := hk1.cell 1;have hx2 := hk1.cell 2;have hx3 := hk1.cell 3;have hy0 := hk2.cell 0;have hy1 := hk2.cell 1;have hy2 := hk2.cell 2;have hy3 := hk2.cell 3;simp only [List.getElem?_toArray, List.getElem?_cons_zero, List.getElem?_cons_succ] at hx0 hx1 hx2 hx3 hy0 hy1 hy2 hy3;generalize hw1 : (w.alloc (.cells #[.int .i64 a.op, .string (bstr a.text), .int .i64 a.num, .slice A a.kids.length ca] 36)).alloc (.cells #[.int .i64 b.op, .string (bstr b.text), .int .i64 b.num, .slice B b.kids.length cb] 36) = w1 at *;have hkm : Pr.nodesL a.kids ≤ m := by omega
  have HEF := hid (Hy ok ok' a.kids b.kids A B ca cb w1 (by omega) hrow hrow' (fun x y X Y W hx hX hY => Be m ok ok' x y X Y W (by obtain ⟨i, hi⟩ := List.mem_iff_getElem?.1 hx; have := Pr.nodes_kid hi; omega) (by omega) hX hY));have hst := Cp a.text b.text;clear hV hV' h h' hrow hrow' hb2 hne hkl hk1 hk2;rw [hso];clear hso;generalize a.kids = ks at *;generalize b.kids = ls at *;generalize a.op = ao at *;generalize b.op = bo at *;generalize a.num = an at *;generalize b.num = bn at *;generalize bstr a.text = at_ at *;generalize bstr b.text = bt at *;generalize (a.text == b.text) = tt at *
  cases h1 : (ao == bo) with
  | false =>
   go_enter Tryz.func20, Tryz.ntmps20;go_wp2_with fail;go_ret;exact ⟨rfl, HB1.out⟩
  | true =>
   cases tt with
   | false =>
    go_enter Tryz.func20, Tryz.ntmps20;go_wp2_with fail;go_ret;exact ⟨rfl, HB1.out⟩
   | true =>
    cases h3 : (an == bn) with
    | false =>
     go_enter Tryz.func20, Tryz.ntmps20;go_wp2_with fail;go_ret;exact ⟨rfl, HB1.out⟩
    | true =>
     go_enter Tryz.func20, Tryz.ntmps20;go_wp2_with fail;refine HEF.out.mono ?_;rintro e w2 ⟨rfl, hb⟩;have HB2 := hid (HB1.out.trans (hb.mono HB1.out.size));clear hb;go_wp2_with fail;go_ret;exact ⟨rfl, HB2.out⟩
theorem Ac {ops : Array Oper} {rest : List Oper} {o : Oper} {a : Act} {w : World} {Q : Exit → Act → World → Prop} (hw : Region.wanted o (yielded ops a.tmps) = true) (ty : TypeId) (x : Operand) (ho : o.op = .load ty x)
  (g : Nat) (hx : a.eval x = .pointer (some ⟨g, 0, none⟩)) (t : TypeId) (cs : Array Value) (fr : Nat × Nat) (d : TypeDesc) (hd : (match d with | .struct _ | .array _ _ => true | _ => false) = true) (hg : w.heap[g]? = some (.cells cs t fr))
  (hu : Tryz.prog.underlying ty = some d) (hi : (Tryz.prog.info? ty).map (·.size) = some cs.size)
  (h : wpList Tryz.prog ops Q rest (a.put o.dst (.agg cs)) w) : wpList Tryz.prog ops Q (o :: rest) a w :=
 wpList_step fun K hK => by
  rw [if_pos hw];exact wp_load_row ty x ho g hx t cs fr d hg hu (by cases d <;> first | rfl | cases hd) hi (hK _ _ h)
theorem AT {w : World} {ok : Nat → Prop} : CnV w ok #[.int .i64 1, .string ⟨#[]⟩, .int .i64 0, .slice none 0 0] Pr.always := CnV.make (A := none) (cap := 0) (ks := []) (fun i c h => by cases h)
theorem EP {w : World} {ok : Nat → Prop} {g : Nat} (h : Blk w g 36 #[.int .i64 1, .string ⟨#[]⟩, .int .i64 0, .slice none 0 0]) (ho : ok g) : CnV w ok #[.int .i64 4, .string ⟨#[]⟩, .int .i64 0, .slice (some ⟨g, 0, none⟩) 1 1] Pr.never :=
 CnV.make (A := some ⟨g, 0, none⟩) (cap := 1) (ks := [Pr.always]) (fun i c hi => by
  cases i with
  | zero =>
   injection hi with hi;subst hi;exact ⟨g, 0, [.int .i64 1, .string ⟨#[]⟩, .int .i64 0, .slice none 0 0], rfl, ho, fun j v hj => by rw [h.cell]; simpa using hj, rfl, AT⟩
  | succ i => simp at hi)
theorem Bz (w : World) : Calls Tryz.prog 42 #[] w fun e w' => (∃ X, e = .returned (.agg X) ∧ CnV w' (fun b => w.heap.size ≤ b) X Pr.never) ∧ Below w.heap.size w w' := by
 go_enter Tryz.func42, Tryz.ntmps42;go_wp2_with fail;have hk0 := (Blk.new w 36 #[.int .i64 4, .string ⟨#[]⟩, .int .i64 0, .slice (some ⟨w.heap.size + 1, 0, none⟩) 1 1]).alloc (.cells #[.int .i64 1, .string ⟨#[]⟩, .int .i64 0, .slice none 0 0] 36);have hk1 := Blk.new (w.alloc (.cells #[.int .i64 4, .string ⟨#[]⟩, .int .i64 0, .slice (some ⟨w.heap.size + 1, 0, none⟩) 1 1] 36)) 36 #[.int .i64 1, .string ⟨#[]⟩, .int .i64 0, .slice none 0 0];rw [World.size_alloc] at hk1;exact bodyPost_ret (v := .agg #[.int .i64 4, .string ⟨#[]⟩, .int .i64 0, .slice (some ⟨w.heap.size + 1, 0, none⟩) 1 1]) (results_cell_row rfl _ _ w.heap.size 36 _ (0, 0) _ rfl hk0 Tryz.underlying36 rfl (by rw [Aa]; rfl)) rfl ⟨⟨_, rfl, EP hk1 (Nat.le_succ _)⟩, ((Below.refl _ w).alloc (Nat.le_refl _) _).alloc (by rw [World.size_alloc]; exact Nat.le_succ _) _⟩
theorem H9 (ok ok' : Nat → Prop) (y x : Pr.Cn) (Y X : Array Value) (g : Nat) (w : World) (hy : CnV w ok Y y) (hx : CnV w ok' X x) (hk : Blk w g 36 X) (hny : Pr.nodes y ≤ 1000000) (hnx : Pr.nodes x ≤ 1000000) :
  Calls Tryz.prog 84 #[.agg Y, .pointer (some ⟨g, 0, none⟩)] w fun e w' => e = .returned (.bool (Pr.same x y)) ∧ Below w.heap.size w w' := by
 have hb := (Below.refl w.heap.size w).alloc (Nat.le_refl _) (.cells Y 36);have HB := hid hb;have HY := hid (hy.bel hb);have HX := hid (hx.bel hb);have HK1 := hid (Blk.new w 36 Y);have HK2 := hid (hk.below hb hk.lt);have HS1 : Hid ((Tryz.prog.info? 36).map (·.size) = some Y.size) := hid (by rw [Aa, hy.size]);have HS2 : Hid ((Tryz.prog.info? 36).map (·.size) = some X.size) := hid (by rw [Aa, hx.size]);obtain ⟨A, cap, hYe, -⟩ := hy.open;have hc0 : (w.alloc (.cells Y 36)).cell? ⟨w.heap.size, 0, none⟩ = some (.int .i64 y.op) := by rw [(Blk.new w 36 Y).cell 0, hYe]; rfl
 clear hYe hb hy hx hk;generalize hw1 : w.alloc (.cells Y 36) = w1 at *;go_enter Tryz.func84, Tryz.ntmps84
 go_wp2_with (first
  | (refine wpList_load_row rfl 36 _ rfl g rfl 36 X (0, 0) _ HK2.out Tryz.underlying36 rfl HS2.out ?_)
  | (refine wpList_load_row rfl 36 _ rfl w.heap.size rfl 36 Y (0, 0) _ HK1.out Tryz.underlying36 rfl HS1.out ?_))
 refine (Be (Pr.nodes x) ok' ok x y X Y w1 (Nat.le_refl _) hnx HX.out HY.out).mono ?_;rintro e w2 ⟨rfl, hb2⟩;have HB2 := hid (HB.out.trans (hb2.mono HB.out.size));clear hb2;go_wp2_with fail;go_ret;exact ⟨rfl, HB2.out⟩
theorem Hg (ok ok' : Nat → Prop) (x : Pr.Cn) (X : Array Value) (l : List Pr.Cn) (A : Option Addr) (c g : Nat) (w : World) (hn : l.length ≤ 1000000) (hr : CnRow w ok A l) (hx : CnV w ok' X x) (hk : Blk w g 36 X) (hnx : Pr.nodes x ≤ 1000000) (hnl : ∀ y ∈ l, Pr.nodes y ≤ 1000000) :
  Calls Tryz.prog 100 #[.slice A l.length c, .func (.func 84) #[] #[.pointer (some ⟨g, 0, none⟩)]] w fun e w' => (∃ z : Int, e = .returned (.int .i64 z) ∧ decide (0 ≤ z) = l.any (fun y => Pr.same x y)) ∧ Below w.heap.size w w' := by
 have HR := hid hr;have HX := hid hx;have HBK := hid hk;have HNL := hid hnl;have hgl := hk.lt;clear hr hx hk;go_enter Tryz.func100, Tryz.ntmps100;go_wp2_with fail
 go_loopw [8] (fun ix wr => ∃ k : Nat, k ≤ l.length ∧ ix = .int .i64 k ∧ Below w.heap.size w wr ∧ ∀ y ∈ l.take k, (Pr.same x y) = false) (fun ix _ => l.length - (RowKit.intOf ix).toNat)
 case atStart => exact ⟨0, Nat.zero_le _, rfl, Below.refl _ _, fun c h => by simp at h⟩
 case round =>
  obtain ⟨k, hk, rfl, hb, hall⟩ := hrel;have HALL := hid hall;have HB := hid hb;have hws := hb.size;clear hall hb;by_cases hlt : k < l.length
  ·obtain ⟨y, hy⟩ : ∃ y, l[k]? = some y := ⟨_, List.getElem?_eq_getElem hlt⟩;obtain ⟨b, off, cs, rfl, hok, hrg, hcl, hcv⟩ := (HR.out.below HB.out) k y hy;have HXK := hid hy
   have HN0 : Hid ((Pr.same x y) = false → ∀ y ∈ l.take (k + 1), (Pr.same x y) = false) := hid (fun hn z hz => by
    rw [AS HXK.out] at hz;rcases List.mem_append.1 hz with hz | hz
    ·exact HALL.out z hz
    ·rw [List.mem_singleton.1 hz]; exact hn)
   have HK := hid (H9 ok ok' y x cs.toArray X g wr hcv (HX.out.bel HB.out) (HBK.out.below HB.out hgl) (HNL.out y (List.mem_of_getElem? hy)) hnx);have HT : Hid ((Pr.same x y) = true → l.any (fun y => Pr.same x y) = true) := hid (fun h => List.any_eq_true.2 ⟨y, List.mem_of_getElem? HXK.out, h⟩);have HL2 : Hid ((Tryz.prog.info? 36).map (·.size) = some cs.length) := hid (by rw [Aa, hcl]);clear hy hcv
   cases hcq : (Pr.same x y) with
   | true =>
    rw [hcq] at HK;have HTT := hid (HT.out hcq);clear hcq;go_wp2_with ((with_reducible refine wpList_load_mid rfl 36 _ rfl b (off + k * 4) ?_ cs _ hrg Tryz.underlying36 ?_ HL2.out ?_); rfl; rfl);refine HK.out.mono ?_;rintro e w2 ⟨rfl, hb2⟩;have HB2 := hid (HB.out.trans (hb2.mono hws));clear hb2;go_wp2_with fail;go_ret;exact ⟨⟨(k : Int), rfl, by rw [HTT.out]; exact decide_eq_true (by omega)⟩, HB2.out⟩
   | false =>
    rw [hcq] at HK;have HN := hid (HN0.out hcq);clear hcq;go_wp2_with ((with_reducible refine wpList_load_mid rfl 36 _ rfl b (off + k * 4) ?_ cs _ hrg Tryz.underlying36 ?_ HL2.out ?_); rfl; rfl);refine HK.out.mono ?_;rintro e w2 ⟨rfl, hb2⟩;have HB2 := hid (HB.out.trans (hb2.mono hws));clear hb2;go_wp2_with fail
    go_roundw
    case rel => exact ⟨k + 1, by omega, by go_num, HB2.out, HN.out⟩
    case measure => simp [RowKit.intOf]; omega
  ·obtain rfl : k = l.length := by omega
   have HF : Hid (l.any (fun y => Pr.same x y) = false) := hid (by
    rw [List.any_eq_false];intro y hz;rw [HALL.out y (by rw [List.take_length]; exact hz)]
    decide)
   go_wp2_with fail;go_ret;exact ⟨⟨-1, rfl, by rw [HF.out]; rfl⟩, HB.out⟩
theorem Hb (ok ok' : Nat → Prop) (x : Pr.Cn) (X : Array Value) (l : List Pr.Cn) (A : Option Addr) (c g : Nat) (w : World) (hn : l.length ≤ 1000000) (hr : CnRow w ok A l) (hx : CnV w ok' X x) (hk : Blk w g 36 X) (hnx : Pr.nodes x ≤ 1000000) (hnl : ∀ y ∈ l, Pr.nodes y ≤ 1000000) :
  Calls Tryz.prog 55 #[.slice A l.length c, .func (.func 84) #[] #[.pointer (some ⟨g, 0, none⟩)]] w fun e w' => e = .returned (.bool (l.any (fun y => Pr.same x y))) ∧ Below w.heap.size w w' := by
 have HI := hid (Hg ok ok' x X l A c g w hn hr hx hk hnx hnl);clear hr hx hk hnx hnl;go_enter Tryz.func55, Tryz.ntmps55;go_wp2_with fail;refine HI.out.mono ?_;rintro e w2 ⟨⟨z, rfl, hz⟩, hb⟩;have HB := hid hb;clear hb;go_wp2_with fail;go_ret;exact ⟨rfl, HB.out⟩
end Go.Proofs.YtchkiegehejfmaaGreatDoor
namespace Pr
theorem tkz_w (c : UInt8) (r : Str) (h : wordc c = true) : tkz (c :: r) = (tkz ((c :: r).dropWhile wordc)).map (⟨1, (c :: r).takeWhile wordc⟩ :: ·) := by
 have hc := h;unfold wordc at hc;simp only [Bool.and_eq_true, bne_iff_ne, beq_iff_eq] at hc;unfold tkz;rw [toks, if_neg hc.1.1, if_neg (by rw [hc.2]; simp), if_neg hc.1.2, AZ];have hd : (c :: r).dropWhile wordc = r.dropWhile wordc := by rw [List.dropWhile_cons, if_pos h]
 have hl := dropWhile_le (p := wordc) r;rw [hd, A7 _ ((r.dropWhile wordc).length + 1) [] _ (by rw [List.length_cons]; omega) (by omega)];rfl
theorem tkz_q0 (r : Str) (h : quoteP [] r = none) : tkz (34 :: r) = none := by
 unfold tkz;rw [toks, if_neg (by decide), if_neg (by decide), if_pos rfl, h]
theorem tkz_q1 (r t q : Str) (h : quoteP [] r = some (t, q)) : tkz (34 :: r) = (tkz q).map (⟨2, t⟩ :: ·) := by
 have hl := quoteP_len _ _ _ _ _ (Nat.le_refl _) h;unfold tkz;rw [toks, if_neg (by decide), if_neg (by decide), if_pos rfl, h];show toks _ ([] ++ [⟨2, t⟩]) q = _;rw [AZ, A7 _ (q.length + 1) [] q (by rw [List.length_cons]; omega) (by omega)];rfl
def tkA (acc : List Tk) (s : Str) : Option (List Tk) := (tkz s).map (acc ++ ·)
theorem tkA_cons {acc : List Tk} {s q : Str} {t : Tk} (h : tkz s = (tkz q).map (t :: ·)) : tkA acc s = tkA (acc ++ [t]) q := by
 unfold tkA;rw [h];cases tkz q <;> simp
theorem tkA_nil (acc : List Tk) : tkA acc [] = some acc := by unfold tkA; rw [Ho]; simp
theorem while_of {p : UInt8 → Bool} {l : Str} {k : Nat} (h1 : ∀ c ∈ l.take k, p c = true) (h2 : ∀ c, l[k]? = some c → p c = false) : l.takeWhile p = l.take k ∧ l.dropWhile p = l.drop k := by
 have := Ar.DF (p := p) (l := l.take k) (t := l.drop k) h1 (by
  intro c r e;refine h2 c ?_;have : (l.drop k)[0]? = some c := by rw [e]; rfl
  rwa [List.getElem?_drop, Nat.add_zero] at this)
 rwa [List.take_append_drop] at this
theorem while_next {p : UInt8 → Bool} {l : Str} {k : Nat} {c : UInt8} (h1 : ∀ c ∈ l.take k, p c = true) (h2 : l[k]? = some c) (h3 : p c = true) : ∀ c ∈ l.take (k + 1), p c = true := by
 intro d hd;rw [List.take_add_one, h2] at hd;rcases List.mem_append.1 hd with hd | hd
 ·exact h1 d hd
 ·rw [List.mem_singleton.1 hd]; exact h3
theorem markOf_byte (c : UInt8) : markOf c = 0 ∨ markOf c = 3 ∨ markOf c = 4 ∨ markOf c = 5 := by
 unfold markOf;split
 ·simp
 ·split
  ·simp
  ·split <;> simp
end Pr
namespace Go.Proofs.YtchkiegehejfmaaGreatDoor
open Go.RowKit Go.Lib
def tkV (t : Pr.Tk) : List Value := [.int .i64 t.form, .string (bstr t.text)]
def tkL (L : List Pr.Tk) : List Value := L.flatMap tkV
theorem FF (a b : List Pr.Tk) : tkL (a ++ b) = tkL a ++ tkL b := List.flatMap_append
theorem Hj : (Tryz.prog.info? 92).map (fun i => (i.zero, i.size, i.bytes)) = some (some (.agg #[.int .i64 0, .string ByteArray.empty]), 2, 24) := by kernel_rfl
theorem G0 : (Tryz.prog.info? 92).map (·.size) = some 2 := by kernel_rfl
theorem rowTk : RowU 85 92 2 24 := ⟨Tryz.underlying85, ⟨_, Hj, rfl⟩, by decide, by decide⟩
theorem BL (f : Int) (t : List UInt8) : ∀ u ∈ ([.int .i64 f, .string (bstr t)] : List Value), u.oneCell' = true := by intro u hu; simp at hu; rcases hu with rfl | rfl <;> rfl
theorem Ch (w : World) (f : Int) (t : List UInt8) : Rd (w.alloc (.cells #[.int .i64 f, .string (bstr t)] 92)) (some ⟨w.heap.size, 0, none⟩) (1 * 2) [.int .i64 f, .string (bstr t)] := Rd.of_blk (vs := [.int .i64 f, .string (bstr t)]) (Blk.new w 92 #[.int .i64 f, .string (bstr t)])
theorem BW {w : World} {base : Nat} {v : Value} {acc : List Pr.Tk} {f : Int} {t : List UInt8} (h : w.ownsRow base 92 2 v (acc.length + 1) (tkL acc ++ [.int .i64 f, .string (bstr t)])) : w.ownsRow base 92 2 v (acc ++ [(⟨f, t⟩ : Pr.Tk)]).length (tkL (acc ++ [(⟨f, t⟩ : Pr.Tk)])) := by
 rw [List.length_append, FF]; exact h
def TkA (w w' : World) (e : Ending) : Option (List Pr.Tk) → Prop
 | none => e = .panicked brk
 | some L => ∃ A cap, e = .returned (.slice A (L.length + 1) cap) ∧ w'.ownsRow w.heap.size 92 2 (.slice A (L.length + 1) cap) (L.length + 1) (tkL (L ++ [⟨0, []⟩]))
theorem TkA.bad {w w' : World} {x : Option (List Pr.Tk)} (h : none = x) : TkA w w' (.panicked brk) x := by subst h; exact rfl
theorem TkA.good {w w' : World} {v : Value} {L : List Pr.Tk} {x : Option (List Pr.Tk)} (h : some L = x) (ho : w'.ownsRow w.heap.size 92 2 v (L.length + 1) (tkL (L ++ [⟨0, []⟩]))) : TkA w w' (.returned v) x := by
 subst h;obtain ⟨A, cap, rfl, -⟩ := AU ho;exact ⟨A, cap, rfl, ho⟩
theorem Cr {w : World} {base size n : Nat} {e : TypeId} {v : Value} {xs : List Value} (h : w.ownsRow base e size v n xs) {g i : Nat} (hg : v.ownBlock ≠ some g) (u : Value) : (w.setCell ⟨g, i, none⟩ u).ownsRow base e size v n xs := by
 obtain ⟨h1, h2⟩ := h;refine ⟨h1, ?_⟩;rcases h2 with h2 | ⟨k, cap, cur, rfl, hk, hh, hn, hcap, hsz, ht⟩
 ·exact .inl h2
 ·refine .inr ⟨k, cap, cur, rfl, hk, (Below.heap_setCell w ⟨g, i, none⟩ u k (fun e => hg (congrArg some e))).trans hh, hn, hcap, hsz, ht⟩
theorem Fm (S : ByteArray) (w : World) (hs : S.size ≤ 1000000) :
  Calls Tryz.prog 60 #[.string S] w fun e w' => TkA w w' e (Pr.tkz S.data.toList) ∧ Below w.heap.size w w' := by
 have HDA : Hid (∀ k (h : k < S.size), S.data.toList.drop k = S[k] :: S.data.toList.drop (k + 1)) := hid (Cl S);have HDE : Hid (∀ k, S.size ≤ k → S.data.toList.drop k = []) := hid (Ci S);have HAT : Hid (∀ k (h : k < S.size), S.data.toList[k]? = some S[k]) := hid (AN S);have HLE : Hid (S.data.toList.length = S.size) := hid (Am S).symm;have HEX : Hid (∀ a b, S.extract a b = bstr ((S.data.toList.drop a).take (b - a))) := hid (fun a b => A5 (by rw [AK]; rfl));have HM := hid (fun c W => GJ c W);obtain ⟨X, hX⟩ : ∃ X, Pr.tkz S.data.toList = X := ⟨_, rfl⟩;have HX : Hid (Pr.tkA [] (S.data.toList.drop 0) = X) := hid (by rw [← hX, List.drop_zero]; unfold Pr.tkA; cases Pr.tkz S.data.toList <;> rfl);rw [hX];clear hX;go_enter Tryz.func60, Tryz.ntmps60;go_wp2_with fail
 go_loopw [3, 4] (fun out ix wr => ∃ (k : Nat) (acc : List Pr.Tk), k ≤ S.size ∧ ix = .int .i64 k ∧ wr.ownsRow w.heap.size 92 2 out acc.length (tkL acc) ∧ Hid (Pr.tkA acc (S.data.toList.drop k) = X) ∧ acc.length ≤ k ∧ Below w.heap.size w wr) (fun _ ix _ => S.size - (RowKit.intOf ix).toNat)
 case atStart => exact ⟨0, [], Nat.zero_le _, rfl, World.ownsRow_nil w w.heap.size 92 2, HX, Nat.le_refl _, Below.refl _ _⟩
 case round =>
  obtain ⟨k, acc, hk, rfl, ho, hrl, hol, hb⟩ := hrel;have HO := hid ho;have HB := hid hb;have hbs := hb.size;obtain ⟨A, cap, rfl, -⟩ := AU ho;clear ho hb;by_cases hlt : k < S.size
  ·have hdl := HDA.out k hlt;have hc2 := (S[k]'hlt).toNat_lt;obtain ⟨c, hc⟩ : ∃ c, S[k]'hlt = c := ⟨_, rfl⟩;by_cases h32 : S[k]'hlt = 32
   ·have hx := u8_eq (n := 32) rfl h32;have HT : Hid (Pr.tkA acc (S.data.toList.drop (k + 1)) = X) := hid (by rw [← hrl.out, hdl, h32]; unfold Pr.tkA; rw [Pr.tkz_blank]);clear hdl h32 hc;go_wp2_with fail
    go_roundw
    case rel => exact ⟨k + 1, acc, by omega, by go_num, HO.out, HT, by omega, HB.out⟩
    case measure => simp [RowKit.intOf]; omega
   have hx := u8_ne (n := 32) rfl h32;have HMC := hid (fun W => HM.out (S[k]'hlt) W);have hmr := Pr.markOf_byte (S[k]'hlt);by_cases hmk : Pr.markOf (S[k]'hlt) ≠ 0
   ·have HT : Hid (Pr.tkA (acc ++ [⟨Pr.markOf (S[k]'hlt), []⟩]) (S.data.toList.drop (k + 1)) = X) := hid (by rw [← hrl.out, hdl, Pr.tkA_cons (Pr.tkz_mark _ _ hmk)]);generalize Pr.markOf (S[k]'hlt) = m at *;have hm1 : (m != 0) = true := by rw [bne_iff_ne]; exact hmk
    clear hdl h32 hc hmk;have HB2 := hid (HB.out.alloc hbs (.cells #[.int .i64 m, .string (bstr [])] 92));have HO2 := hid (AR HO.out ((Below.refl wr.heap.size wr).alloc (Nat.le_refl _) (.cells #[.int .i64 m, .string (bstr [])] 92)));have hs2 : w.heap.size ≤ (wr.alloc (.cells #[.int .i64 m, .string (bstr [])] 92)).heap.size := HB2.out.size
    go_wp2_with (first
     | (go_at_call 108; refine (HMC.out _).mono ?_; rintro e w' ⟨rfl, rfl⟩)
     | (at_builtin; refine AC rowTk rfl _ _ rfl _ (.slice A acc.length cap) acc.length (tkL acc) _ w.heap.size rfl HO2.out _ 1 1 rfl (Ch wr m []) (BL m []) hs2 (by omega) ?_; intro v2 w3 ho3 hg3 hb3 hw3))
    go_roundw
    case rel => exact ⟨k + 1, acc ++ [⟨m, []⟩], by omega, by go_num, BW ho3, HT, by rw [List.length_append]; simp; omega, hb3 _ HB2.out⟩
    case measure => simp [RowKit.intOf]; omega
   have hm0 : Pr.markOf (S[k]'hlt) = 0 := Classical.not_not.1 hmk;by_cases h34 : S[k]'hlt = 34
   ·have hy := u8_eq (n := 34) rfl h34;have HQ := hid (fun W => Fj S (k + 1) W hs (by omega))
    cases hq : Pr.quoteP [] (S.data.toList.drop (k + 1)) with
    | none =>
     have HE : Hid (none = X) := hid (by rw [← hrl.out, hdl, h34]; unfold Pr.tkA; rw [Pr.tkz_q0 _ hq]; rfl);rw [hq] at HQ;rw [hm0] at HMC;clear hdl h34 h32 hc hq hmk hm0 hmr;go_wp2_with (go_at_call 108; refine (HMC.out _).mono ?_; rintro e w' ⟨rfl, rfl⟩);refine (HQ.out _).mono ?_;rintro e w6 ⟨he, hb6⟩;obtain rfl : e = .panicked brk := he;exact ⟨rfl, TkA.bad HE.out, (HB.out.alloc hbs _).trans (hb6.mono (HB.out.alloc hbs _).size)⟩
    | some tq =>
     obtain ⟨t, q⟩ := tq;rw [hq] at HQ;rw [hm0] at HMC;have H34 := hid h34;have HDL := hid hdl;have HQQ := hid hq;clear h32 hc hmk hm0 hmr h34 hdl hq;go_wp2_with (go_at_call 108; refine (HMC.out _).mono ?_; rintro e w' ⟨rfl, rfl⟩);refine (HQ.out _).mono ?_;rintro e w6 ⟨⟨k2, hk2, rfl, rfl⟩, hb6⟩;have hql := Pr.quoteP_len _ _ _ _ _ (Nat.le_refl _) HQQ.out;have HT : Hid (Pr.tkA (acc ++ [⟨2, t⟩]) (S.data.toList.drop k2) = X) := hid (by rw [← hrl.out, HDL.out, H34.out, Pr.tkA_cons (Pr.tkz_q1 _ _ _ HQQ.out)])
     have HLT : Hid (k < k2) := hid (by
      rw [List.length_drop, List.length_drop, HLE.out] at hql
      omega)
     have HB5 := hid (HB.out.alloc hbs (.cells #[.int .i64 2, .string ⟨#[]⟩] 92));have hs5 : wr.heap.size + 1 ≤ w6.heap.size := by have h1 := hb6.size; rw [World.size_alloc] at h1; exact h1
     have HK6 : Hid (Blk w6 wr.heap.size 92 #[.int .i64 2, .string ⟨#[]⟩]) := hid ((Blk.new wr 92 #[.int .i64 2, .string ⟨#[]⟩]).below hb6 (by rw [World.size_alloc]; omega));have HB6 : Hid (Below w.heap.size w w6) := hid (HB5.out.trans (hb6.mono HB5.out.size));have HO6 := hid (AR (AR HO.out ((Below.refl wr.heap.size wr).alloc (Nat.le_refl _) (.cells #[.int .i64 2, .string ⟨#[]⟩] 92))) hb6);have hfz := HK6.out.frozen 1;have HK7 : Hid (Blk (w6.setCell ⟨wr.heap.size, 1, none⟩ (.string (bstr t))) wr.heap.size 92 #[.int .i64 2, .string (bstr t)]) := hid (HK6.out.set_ 1 (.string (bstr t)));have HB7 : Hid (Below w.heap.size w (w6.setCell ⟨wr.heap.size, 1, none⟩ (.string (bstr t)))) := hid (HB6.out.setCell hbs _);have HO7 : Hid ((w6.setCell ⟨wr.heap.size, 1, none⟩ (.string (bstr t))).ownsRow w.heap.size 92 2 (.slice A acc.length cap) acc.length (tkL acc)) := hid (Cr HO6.out (fun e => by have := (HO.out.lt _ e).2; omega) _);have HSZ : Hid ((Tryz.prog.info? 92).map (·.size) = some (#[.int .i64 2, .string (bstr t)] : Array Value).size) := hid G0;have hc6 := HK6.out.cell 1;simp only [List.getElem?_toArray, List.getElem?_cons_succ, List.getElem?_cons_zero] at hc6;clear hb6 hql hs5;generalize hw7 : w6.setCell ⟨wr.heap.size, 1, none⟩ (.string (bstr t)) = w7 at *;have HB8 := hid (HB7.out.alloc HB7.out.size (.cells #[.int .i64 2, .string (bstr t)] 92));have HO8 := hid (AR HO7.out ((Below.refl w7.heap.size w7).alloc (Nat.le_refl _) (.cells #[.int .i64 2, .string (bstr t)] 92)));have hs8 : w.heap.size ≤ (w7.alloc (.cells #[.int .i64 2, .string (bstr t)] 92)).heap.size := HB8.out.size
     go_wp2_with (first
      | (refine Ac (by rfl) 92 _ rfl wr.heap.size rfl 92 _ (0, 0) _ rfl HK7.out Tryz.underlying92 HSZ.out ?_)
      | (at_builtin; refine AC rowTk rfl _ _ rfl _ (.slice A acc.length cap) acc.length (tkL acc) _ w.heap.size rfl HO8.out _ 1 1 rfl (Ch w7 2 t) (BL 2 t) hs8 (by omega) ?_; intro v2 w3 ho3 hg3 hb3 hw3))
     go_roundw
     case rel => exact ⟨k2, acc ++ [⟨2, t⟩], hk2, by go_num, BW ho3, HT, by have := HLT.out; rw [List.length_append]; simp; omega, hb3 _ HB8.out⟩
     case measure => have := HLT.out; simp [RowKit.intOf]; omega
   ·have hy := u8_ne (n := 34) rfl h34;rw [hm0] at HMC;have HW : Hid (Pr.wordc (S[k]'hlt) = true) := hid (Pr.wordc_of h32 hmk h34);have HDL := hid hdl;clear hdl h34 h32 hc hmk hm0 hmr;go_wp2_with (go_at_call 108; refine (HMC.out _).mono ?_; rintro e w' ⟨rfl, rfl⟩)
    go_loop [4] (fun ix => ∃ j : Nat, k ≤ j ∧ j ≤ S.size ∧ ix = .int .i64 j ∧ Hid (∀ c ∈ (S.data.toList.drop k).take (j - k), Pr.wordc c = true)) (fun ix => S.size - (RowKit.intOf ix).toNat)
    case atStart => exact ⟨k, Nat.le_refl _, hk, rfl, hid (by rw [Nat.sub_self]; simp)⟩
    case round =>
     obtain ⟨j, hkj, hj, rfl, hall⟩ := hrel;by_cases hgo : ∃ h : j < S.size, Pr.wordc S[j] = true
     ·obtain ⟨hltj, hwj⟩ := hgo
      have HN : Hid (∀ c ∈ (S.data.toList.drop k).take (j + 1 - k), Pr.wordc c = true) := hid (by
       have := Pr.while_next hall.out (k := j - k) (c := S[j]'hltj) (by rw [List.getElem?_drop, show k + (j - k) = j by omega]; exact HAT.out j hltj) hwj
       rwa [show j - k + 1 = j + 1 - k by omega] at this)
      have hwj2 := hwj;unfold Pr.wordc at hwj2;simp only [Bool.and_eq_true, bne_iff_ne, beq_iff_eq] at hwj2;have hz1 := Bh (n := 32) rfl hwj2.1.1;have hz2 := Bh (n := 34) rfl hwj2.1.2;have HMJ := hid (fun W => HM.out (S[j]'hltj) W);rw [hwj2.2] at HMJ;clear hwj hwj2;go_wp2_with (go_at_call 108; refine (HMJ.out _).mono ?_; rintro e w' ⟨rfl, rfl⟩)
      go_round
      case rel => exact ⟨j + 1, by omega, by omega, by go_num, HN⟩
      case measure => simp [RowKit.intOf]; omega
     ·have HSTOP : Hid (∀ c, (S.data.toList.drop k)[j - k]? = some c → Pr.wordc c = false) := hid (fun c hc => by
       rw [List.getElem?_drop, show k + (j - k) = j by omega] at hc;have hltj : j < S.size := by rw [← HLE.out]; exact (List.getElem?_eq_some_iff.1 hc).1
       rw [HAT.out j hltj] at hc;injection hc with hc;subst hc
       cases hww : Pr.wordc S[j] with
       | false => rfl
       | true => exact absurd ⟨hltj, hww⟩ hgo)
      obtain ⟨h3, h4⟩ := Pr.while_of (p := Pr.wordc) (l := S.data.toList.drop k) (k := j - k) hall.out HSTOP.out;have hkj2 : k < j := by
       rcases Nat.lt_or_ge k j with h | h
       ·exact h
       ·have : j = k := by omega
        subst this;exact absurd ⟨hlt, HW.out⟩ hgo
      have HT : Hid (Pr.tkA (acc ++ [⟨1, (S.data.toList.drop k).take (j - k)⟩]) (S.data.toList.drop j) = X) := hid (by
       rw [HDL.out] at h3 h4
       rw [← hrl.out, HDL.out, Pr.tkA_cons (Pr.tkz_w _ _ HW.out), h3, h4, ← HDL.out, List.drop_drop, show k + (j - k) = j by omega])
      have hxs := HEX.out k j;obtain ⟨t, ht⟩ : ∃ t, (S.data.toList.drop k).take (j - k) = t := ⟨_, rfl⟩;rw [ht] at HT hxs;have HB8 := hid (HB.out.alloc hbs (.cells #[.int .i64 1, .string (bstr t)] 92));have HO8 := hid (AR HO.out ((Below.refl wr.heap.size wr).alloc (Nat.le_refl _) (.cells #[.int .i64 1, .string (bstr t)] 92)));have hs8 : w.heap.size ≤ (wr.alloc (.cells #[.int .i64 1, .string (bstr t)] 92)).heap.size := HB8.out.size;have HGO := hid hgo;clear h3 h4 ht hgo;by_cases hltj : j < S.size
      ·by_cases hj1 : S[j]'hltj = 32
       ·have hz1 := Bu (n := 32) rfl hj1;clear hj1
        go_wp2_with (first
         | (at_builtin; refine AC rowTk rfl _ _ rfl _ (.slice A acc.length cap) acc.length (tkL acc) _ w.heap.size rfl HO8.out _ 1 1 rfl (Ch wr 1 t) (BL 1 t) hs8 (by omega) ?_; intro v2 w3 ho3 hg3 hb3 hw3))
        go_roundw
        case rel => exact ⟨j, acc ++ [⟨1, t⟩], hj, by go_num, BW ho3, HT, by rw [List.length_append]; simp; omega, hb3 _ HB8.out⟩
        case measure => simp [RowKit.intOf]; omega
       ·have hz1 := Bh (n := 32) rfl hj1;by_cases hj2 : S[j]'hltj = 34
        ·have hz2 := Bu (n := 34) rfl hj2;clear hj1 hj2
         go_wp2_with (first
          | (at_builtin; refine AC rowTk rfl _ _ rfl _ (.slice A acc.length cap) acc.length (tkL acc) _ w.heap.size rfl HO8.out _ 1 1 rfl (Ch wr 1 t) (BL 1 t) hs8 (by omega) ?_; intro v2 w3 ho3 hg3 hb3 hw3))
         go_roundw
         case rel => exact ⟨j, acc ++ [⟨1, t⟩], hj, by go_num, BW ho3, HT, by rw [List.length_append]; simp; omega, hb3 _ HB8.out⟩
         case measure => simp [RowKit.intOf]; omega
        ·have hz2 := Bh (n := 34) rfl hj2;have HMJ := hid (fun W => HM.out (S[j]'hltj) W);have hmj : Pr.markOf (S[j]'hltj) ≠ 0 := fun e => HGO.out ⟨hltj, Pr.wordc_of hj1 (fun h => h e) hj2⟩
         generalize Pr.markOf (S[j]'hltj) = mj at *;have hz3 : (mj == 0) = false := by rw [beq_eq_false_iff_ne]; exact hmj
         clear hj1 hj2 hmj
         go_wp2_with (first
          | (go_at_call 108; refine (HMJ.out _).mono ?_; rintro e w' ⟨rfl, rfl⟩)
          | (at_builtin; refine AC rowTk rfl _ _ rfl _ (.slice A acc.length cap) acc.length (tkL acc) _ w.heap.size rfl HO8.out _ 1 1 rfl (Ch wr 1 t) (BL 1 t) hs8 (by omega) ?_; intro v2 w3 ho3 hg3 hb3 hw3))
         go_roundw
         case rel => exact ⟨j, acc ++ [⟨1, t⟩], hj, by go_num, BW ho3, HT, by rw [List.length_append]; simp; omega, hb3 _ HB8.out⟩
         case measure => simp [RowKit.intOf]; omega
      ·go_wp2_with (first
        | (at_builtin; refine AC rowTk rfl _ _ rfl _ (.slice A acc.length cap) acc.length (tkL acc) _ w.heap.size rfl HO8.out _ 1 1 rfl (Ch wr 1 t) (BL 1 t) hs8 (by omega) ?_; intro v2 w3 ho3 hg3 hb3 hw3))
       go_roundw
       case rel => exact ⟨j, acc ++ [⟨1, t⟩], hj, by go_num, BW ho3, HT, by rw [List.length_append]; simp; omega, hb3 _ HB8.out⟩
       case measure => simp [RowKit.intOf]; omega
  ·have HE : Hid (some acc = X) := hid (by rw [← hrl.out, HDE.out k (by omega), Pr.tkA_nil]);have HB2 := hid (HB.out.alloc hbs (.cells #[.int .i64 0, .string (bstr [])] 92));have HO2 := hid (AR HO.out ((Below.refl wr.heap.size wr).alloc (Nat.le_refl _) (.cells #[.int .i64 0, .string (bstr [])] 92)));have hs2 : w.heap.size ≤ (wr.alloc (.cells #[.int .i64 0, .string (bstr [])] 92)).heap.size := HB2.out.size;go_wp2_with (at_builtin; refine AC rowTk rfl _ _ rfl _ (.slice A acc.length cap) acc.length (tkL acc) _ w.heap.size rfl HO2.out _ 1 1 rfl (Ch wr 0 []) (BL 0 []) hs2 (by omega) ?_; intro v2 w3 ho3 hg3 hb3 hw3);go_ret;exact ⟨TkA.good HE.out (by rw [FF]; exact ho3), hb3 _ HB2.out⟩
end Go.Proofs.YtchkiegehejfmaaGreatDoor
