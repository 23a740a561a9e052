/- The texts Gk, W2 of this proof, one behind the other. -/
import Derived.Test.YtchkiegehejfmaaGreatDoorMsbe
import Derived.Test.YtchkiegehejfmaaGreatDoorMsav
import Derived.Test.YtchkiegehejfmaaGreatDoorMsar
set_option linter.unusedSimpArgs false
set_option maxHeartbeats 16000000
set_option maxRecDepth 100000
set_option linter.unusedVariables false
namespace Go.Proofs.YtchkiegehejfmaaGreatDoor
open Go.RowKit Go.Lib
theorem Ax {P : Program} {fn : Func} {p u : Tmp} {ty : TypeId} (h : fn.results = #[.cell p ty, .tmp u]) (tmps : Array Value) (w : World) (g : Nat) (t : TypeId) (cs : Array Value) (d : TypeDesc)
  (hp : tmps.getD p undef = .pointer (some ⟨g, 0, none⟩)) (hg : Blk w g t cs)
  (hu : P.underlying ty = some d) (hd : (match d with | .struct _ | .array _ _ => true | _ => false) = true) (hi : (P.info? ty).map (·.size) = some cs.size) :
  (results fn tmps).run P w = .ok (.tuple #[.agg cs, tmps.getD u undef]) w := by
 have hl := run_loadVar_row w g t ty cs (0, 0) d hg hu hd hi;have e : (results fn tmps).run P w = ((asAddr (tmps.getD p undef)).run P w).andThen fun a w₁ => ((loadVar ty a).run P w₁).andThen fun x w₂ => .ok (.tuple #[x, tmps.getD u undef]) w₂ := by
  simp only [results, h];simp [Sem.run_bind, Result.andThen]
 rw [e];simp only [hp, asAddr, Sem.run_pure, Result.andThen_ok];rw [hl];rfl
theorem Av : (Tryz.prog.info? 45).map (·.size) = some zRl.size := by rw [AB]; rfl
theorem Bm : zRl.all (·.oneCell') = true := by simp [zRl, Value.oneCell']
theorem C1 (n : ByteArray) (a : Int) (s : ByteArray) (m : Int) (A : Option Addr) (l c : Nat) (D : Option Addr) (k d : Nat) : (Tryz.prog.info? 45).map (·.size) = some (#[.string n, .int .i64 a, .string s, .int .i64 m, .slice A l c, .slice D k d] : Array Value).size := by rw [AB]; rfl
theorem Fq (n : ByteArray) (a : Int) (s : ByteArray) (m : Int) (A : Option Addr) (l c : Nat) (D : Option Addr) (k d : Nat) : (#[.string n, .int .i64 a, .string s, .int .i64 m, .slice A l c, .slice D k d] : Array Value).all (·.oneCell') = true := by simp [Value.oneCell']
structure LqM (w0 wr : World) : Prop where
 x : Blk wr w0.heap.size 45 zRl
 n : Blk wr (w0.heap.size + 1) 45 zRl
 be : Below w0.heap.size w0 wr
theorem LqM.bel {w0 wr w' : World} (h : LqM w0 wr) (hb : Below wr.heap.size wr w') : LqM w0 w' := ⟨h.x.below hb h.x.lt, h.n.below hb h.n.lt, h.be.trans (hb.mono h.be.size)⟩
theorem LqM.two {w0 wr : World} (h : LqM w0 wr) : w0.heap.size + 2 ≤ wr.heap.size := h.n.lt
structure LqT (w0 : World) (G : Nat) (nm : List UInt8) (c : Pr.Cn) (B : Option Addr) (bc : Nat) (al : List (List UInt8)) (D : Value) (wr : World) : Prop where
 m : LqM w0 wr
 x : Blk wr G 45 #[.string (bstr nm), .int .i64 c.op, .string (bstr c.text), .int .i64 c.num, .slice B c.kids.length bc, D]
 cn : CnRow wr (fun b => w0.heap.size + 2 ≤ b ∧ b < G) B c.kids
 own : wr.ownsRow (G + 1) 9 1 D al.length (strL al)
 g : w0.heap.size + 2 ≤ G
section
variable {w0 wr w' w14 w15 : World} {G bc : Nat} {nm a : List UInt8} {c : Pr.Cn} {B : Option Addr} {al : List (List UInt8)} {D v9 : Value}
theorem LqT.bel (h : LqT w0 G nm c B bc al D wr) (hb : Below wr.heap.size wr w') : LqT w0 G nm c B bc al D w' :=
 ⟨h.m.bel hb, h.x.below hb h.x.lt, h.cn.below hb, AR h.own hb, h.g⟩
theorem LqT.push (h : LqT w0 G nm c B bc al D w14) (ho : w15.ownsRow (G + 1) 9 1 v9 (al.length + 1) (strL al ++ [.string (bstr a)])) (hg : w14.grownBy w15 D.ownBlock) :
  Blk w15 G 45 #[.string (bstr nm), .int .i64 c.op, .string (bstr c.text), .int .i64 c.num, .slice B c.kids.length bc, D] ∧ LqT w0 G nm c B bc (al ++ [a]) v9 (w15.setCell ⟨G, 5, none⟩ v9) ∧ (∀ k, k < G → (w15.setCell ⟨G, 5, none⟩ v9).heap[k]? = w14.heap[k]?) ∧ Below w0.heap.size w0 (w15.setCell ⟨G, 5, none⟩ v9) := by
 have h1 := h.g;have h2 := h.x.lt;have hb : Below (G + 1) w14 w15 := (Below.refl (G + 1) w14).grown hg (by omega) (fun k e => (h.own.lt k e).1);have hx : Blk w15 G 45 #[.string (bstr nm), .int .i64 c.op, .string (bstr c.text), .int .i64 c.num, .slice B c.kids.length bc, D] := h.x.below hb (by omega);have hoth : ∀ k, k < G → (w15.setCell ⟨G, 5, none⟩ v9).heap[k]? = w14.heap[k]? := fun k hk => (Below.heap_setCell _ _ _ _ (by show k ≠ G; omega)).trans (hb.block k (by omega))
 have hbe : Below w0.heap.size w0 (w15.setCell ⟨G, 5, none⟩ v9) := (h.m.be.trans (hb.mono (by omega))).setCell (by show w0.heap.size ≤ G; omega) _;refine ⟨hx, ⟨⟨(hoth _ (by omega)).trans h.m.x, (hoth _ (by omega)).trans h.m.n, hbe⟩, hx.set_ 5 v9, h.cn.keep fun b hb2 hl => ⟨hb2, hoth b hb2.2⟩, ?_, h1⟩, hoth, hbe⟩;rw [List.length_append, Bi];exact Cr ho (fun e => by have := (ho.lt _ e).1; omega) v9
end
theorem LqT.new {w0 w9 : World} {nm : List UInt8} {c : Pr.Cn} {B : Option Addr} {bc n7 : Nat} (hm : LqM w0 w9) (hc : CnRow w9 (fun b => w0.heap.size + 2 ≤ b ∧ b < n7) B c.kids) (h7 : n7 ≤ w9.heap.size) :
  LqT w0 w9.heap.size nm c B bc [] (.slice none 0 0) ((w9.drew.alloc (.cells zRl 45)).setRow w9.heap.size #[.string (bstr nm), .int .i64 c.op, .string (bstr c.text), .int .i64 c.num, .slice B c.kids.length bc, .slice none 0 0]) ∧
  (∀ k, k ≠ w9.heap.size → k < w9.heap.size → ((w9.drew.alloc (.cells zRl 45)).setRow w9.heap.size #[.string (bstr nm), .int .i64 c.op, .string (bstr c.text), .int .i64 c.num, .slice B c.kids.length bc, .slice none 0 0]).heap[k]? = w9.heap[k]?) ∧
  Below w9.heap.size w9 ((w9.drew.alloc (.cells zRl 45)).setRow w9.heap.size #[.string (bstr nm), .int .i64 c.op, .string (bstr c.text), .int .i64 c.num, .slice B c.kids.length bc, .slice none 0 0]) := by
 have hz : Below w9.heap.size w9 (w9.drew.alloc (.cells zRl 45)) := (Below.refl _ w9).drew.alloc (Nat.le_refl _) _;have hb : Blk (w9.drew.alloc (.cells zRl 45)) w9.heap.size 45 zRl := Blk.new w9.drew 45 zRl;have h2 := hm.two;have hbe := below_setRow (g := w9.heap.size) hz (Nat.le_refl _) #[.string (bstr nm), .int .i64 c.op, .string (bstr c.text), .int .i64 c.num, .slice B c.kids.length bc, .slice none 0 0];refine ⟨⟨⟨(hbe.block _ (by omega)).trans hm.x, (hbe.block _ (by omega)).trans hm.n, hm.be.trans (hbe.mono (by omega))⟩, setRow_heap _ _ _ _ _ _ hb, hc.keep fun b hb hl => ⟨⟨hb.1, by omega⟩, hbe.block b (by omega)⟩, World.ownsRow_nil .., h2⟩, fun k _ hk => hbe.block k hk, hbe⟩
theorem DJ (S : ByteArray) (w : World) (hs : S.size ≤ 1000000) : Calls Tryz.prog 32 #[.string S] w (LnA w (Pr.lineP S.data.toList)) := by
 have HM1 : Hid (LqM w ((w.alloc (.cells zRl 45)).alloc (.cells zRl 45))) := hid (by
  have hs1 : (w.alloc (.cells zRl 45)).heap.size = w.heap.size + 1 := World.size_alloc ..
  refine ⟨(Blk.new w 45 zRl).alloc _, ?_, ((Below.refl _ _).alloc (Nat.le_refl _) _).alloc (by rw [hs1]; omega) _⟩;have := Blk.new (w.alloc (.cells zRl 45)) 45 zRl
  rwa [hs1] at this)
 have HTO := hid (Em S ((w.alloc (.cells zRl 45)).alloc (.cells zRl 45)) hs);have HOK := hid (fun L h => Pr.tkz_ok (s := S.data.toList) (L := L) h (by rw [← Am]; exact hs));obtain ⟨RES, hRES⟩ : ∃ R, Pr.lineP S.data.toList = R := ⟨_, rfl⟩;have HR0 : Hid (RES = lineZ (Pr.tkz S.data.toList)) := hid (by rw [← hRES, Fs]);rw [hRES];generalize Pr.tkz S.data.toList = X at *;clear hRES;go_enter Tryz.func32, Tryz.ntmps32;go_wp2_with fail;refine HTO.out.mono ?_;rintro e w2 ⟨hr, hb2⟩;have HM2 := hid (HM1.out.bel hb2);have hs2 := HM1.out.two
 cases X with
 | none =>
  obtain rfl : e = .returned (.tuple #[.slice none 0 0, .bool false]) := hr;have HE : Hid (RES = none) := hid HR0.out;clear hb2 hs2
  go_upto_region 4 with fail
  go_wp2_with (first
   | (refine Ac (by rfl) 45 _ rfl (w.heap.size + 1) rfl 45 _ (0, 0) _ rfl HM2.out.n Tryz.underlying45 Av ?_)
   | ((with_reducible refine Ab rfl 45 _ _ rfl w.heap.size zRl ?_ ?_ 45 zRl HM2.out.x Av rfl Bm ?_); rfl; rfl; intro w5 hk5 hs5 hbl5 hoth5))
  refine bodyPost_ret (Ax rfl _ _ w.heap.size _ _ _ rfl hk5 Tryz.underlying45 rfl Av) rfl ?_;exact LnA.no HE.out (HM2.out.be.trans (hbl5 w.heap.size (Nat.le_refl _)))
 | some L =>
  obtain ⟨A, cap, rfl, hown⟩ := hr;obtain ⟨hTok, hLl⟩ := HOK.out L rfl;have HTOK := hid hTok;have hL : L.length ≤ 1000000 := by rw [← Am] at hLl; omega
  obtain ⟨A', cap', e1, -, hrow, -⟩ := AU hown;injection e1 with e1 e2 e3;subst e1 e3;have HRW2 := hid hrow;have HR1 : Hid (RES = if Pr.headIs Pr.ruleW L then Pr.rA (L.length + 1) (Pr.takeF 1 L.tail) else none) := hid (by rw [HR0.out]; exact Pr.ruleP_eq L);have HRD : Hid (∀ W, Below w2.heap.size w2 W → Rd W A (L.length * 2) (rkL L)) := hid (fun W hb => HRW2.out.below hb);have HI0 := hid (fun W hW => BZ Pr.ruleW A cap L 0 W hW hL (by omega));have HA1 := hid (fun W hW => Bk A cap L 1 W hW hL (by omega));have HI2 := hid (fun W hW => BZ Pr.whenW A cap L 2 W hW hL (by omega));rw [show bstr Pr.ruleW = (⟨#[114, 117, 108, 101]⟩ : ByteArray) from rfl, List.drop_zero] at HI0;rw [show bstr Pr.whenW = (⟨#[119, 104, 101, 110]⟩ : ByteArray) from rfl] at HI2;have HF1 := hid (Pr.takeF_yes (f := 1) (r := L.drop 1) (by decide));have HN1 := hid (Pr.takeF_no (f := 1) (r := L.drop 1));have HT1 : Hid (L.tail = L.drop 1) := hid List.drop_one.symm;have hs3 : w.heap.size + 2 ≤ w2.heap.size := Nat.le_trans hs2 hb2.size;clear hown hrow hTok hLl hb2 HTO HM1 e2 hs2 HR0 HOK
  cases h0 : Pr.headIs Pr.ruleW L with
  | false =>
   rw [h0] at HI0;have HE : Hid (RES = none) := hid (by rw [HR1.out, h0]; rfl);clear h0
   go_upto_region 4 with (go_at_call 65; refine (HI0.out w2 (HRD.out w2 (Below.refl _ _))).mono ?_; rintro e w3 ⟨rfl, hb3⟩; have HM3 := hid (HM2.out.bel hb3); clear hb3)
   go_wp2_with (first
    | (refine Ac (by rfl) 45 _ rfl (w.heap.size + 1) rfl 45 _ (0, 0) _ rfl HM3.out.n Tryz.underlying45 Av ?_)
    | ((with_reducible refine Ab rfl 45 _ _ rfl w.heap.size zRl ?_ ?_ 45 zRl HM3.out.x Av rfl Bm ?_); rfl; rfl; intro w5 hk5 hs5 hbl5 hoth5))
   refine bodyPost_ret (Ax rfl _ _ w.heap.size _ _ _ rfl hk5 Tryz.underlying45 rfl Av) rfl ?_;exact LnA.no HE.out (HM3.out.be.trans (hbl5 w.heap.size (Nat.le_refl _)))
  | true =>
   rw [h0] at HI0;have HR2 : Hid (RES = Pr.rA (L.length + 1) (Pr.takeF 1 (L.drop 1))) := hid (by rw [HR1.out, h0, if_pos rfl, HT1.out]);clear h0 HR1;have HB2 : Hid (Below w2.heap.size w2 w2) := hid (Below.refl _ _);by_cases hf1 : (Pr.hdT (L.drop 1)).form = 1
   case neg =>
    have HE : Hid (RES = none) := hid (by rw [HR2.out, HN1.out hf1]; rfl);generalize (Pr.hdT (L.drop 1)).form = f at *;generalize (Pr.hdT (L.drop 1)).text = nm at *;have hkw : (kdOf f == 119) = false := by rw [Bb]; exact beq_eq_false_iff_ne.2 hf1
    have hkwn : (kdOf f != 119) = true := by rw [bne, hkw]; rfl
    have hfd := BC (kdOf f) (bstr nm);clear hf1;go_wp2_with fail;refine (HI0.out w2 (HRD.out w2 HB2.out)).mono ?_;rintro e w3 ⟨rfl, hb3⟩;have HB3 := hid (HB2.out.trans (hb3.mono HB2.out.size));have HM3 := hid (HM2.out.bel hb3);clear hb3;go_wp2_with fail;refine (HA1.out w3 (HRD.out w3 HB3.out)).mono ?_;rintro e w4 ⟨rfl, hb4⟩;have HB4 := hid (HB3.out.trans (hb4.mono HB3.out.size));have HM4 := hid (HM3.out.bel hb4);clear hb4
    go_upto_region 4 with fail
    go_wp2_with (first
     | (refine Ac (by rfl) 45 _ rfl (w.heap.size + 1) rfl 45 _ (0, 0) _ rfl HM4.out.n Tryz.underlying45 Av ?_)
     | ((with_reducible refine Ab rfl 45 _ _ rfl w.heap.size zRl ?_ ?_ 45 zRl HM4.out.x Av rfl Bm ?_); rfl; rfl; intro w5 hk5 hs5 hbl5 hoth5))
    refine bodyPost_ret (Ax rfl _ _ w.heap.size _ _ _ rfl hk5 Tryz.underlying45 rfl Av) rfl ?_;exact LnA.no HE.out (HM4.out.be.trans (hbl5 w.heap.size (Nat.le_refl _)))
   have HF1' := hid (HF1.out hf1);generalize hff : (Pr.hdT (L.drop 1)).form = f at *;generalize hnm : (Pr.hdT (L.drop 1)).text = nm at *;have HFF := hid hff;have HNM := hid hnm;clear hff hnm;have hkw : (kdOf f == 119) = true := by rw [Bb, hf1]; rfl
   have hkwn : (kdOf f != 119) = false := by rw [bne, hkw]; rfl
   have hfd := BC (kdOf f) (bstr nm);have HR3 : Hid (RES = Pr.rB (L.length + 1) nm (L.drop 2)) := hid (by rw [HR2.out, HF1'.out, List.tail_drop]; rfl);clear hf1 HR2 HF1 HN1 HT1
   cases h2 : Pr.headIs Pr.whenW (L.drop 2) with
   | false =>
    rw [h2] at HI2;have HE : Hid (RES = none) := hid (by rw [HR3.out]; unfold Pr.rB; rw [h2]; rfl);clear h2;go_wp2_with fail;refine (HI0.out w2 (HRD.out w2 HB2.out)).mono ?_;rintro e w3 ⟨rfl, hb3⟩;have HB3 := hid (HB2.out.trans (hb3.mono HB2.out.size));have HM3 := hid (HM2.out.bel hb3);clear hb3;go_wp2_with fail;refine (HA1.out w3 (HRD.out w3 HB3.out)).mono ?_;rintro e w4 ⟨rfl, hb4⟩;have HB4 := hid (HB3.out.trans (hb4.mono HB3.out.size));have HM4 := hid (HM3.out.bel hb4);clear hb4;go_wp2_with fail;refine (HI2.out w4 (HRD.out w4 HB4.out)).mono ?_;rintro e w6 ⟨rfl, hb6⟩;have HB6 := hid (HB4.out.trans (hb6.mono HB4.out.size));have HM6 := hid (HM4.out.bel hb6);clear hb6
    go_upto_region 4 with fail
    go_wp2_with (first
     | (refine Ac (by rfl) 45 _ rfl (w.heap.size + 1) rfl 45 _ (0, 0) _ rfl HM6.out.n Tryz.underlying45 Av ?_)
     | ((with_reducible refine Ab rfl 45 _ _ rfl w.heap.size zRl ?_ ?_ 45 zRl HM6.out.x Av rfl Bm ?_); rfl; rfl; intro w5 hk5 hs5 hbl5 hoth5))
    refine bodyPost_ret (Ax rfl _ _ w.heap.size _ _ _ rfl hk5 Tryz.underlying45 rfl Av) rfl ?_;exact LnA.no HE.out (HM6.out.be.trans (hbl5 w.heap.size (Nat.le_refl _)))
   | true =>
    rw [h2] at HI2;have hl2 : 2 < L.length := by
     rcases Nat.lt_or_ge 2 L.length with h | h
     ·exact h
     ·rw [List.drop_eq_nil_of_le h] at h2;cases h2
    have HR4 : Hid (RES = Pr.rC (L.length + 1) nm (Pr.condP (L.length + 1) 0 (L.drop 3))) := hid (by rw [HR3.out]; unfold Pr.rB; rw [h2, if_pos rfl, List.tail_drop]);have HCD := hid (fun W hW => F1 A cap L 3 W hW (by omega) hL HTOK.out);generalize Pr.condP (L.length + 1) 0 (L.drop 3) = Y at *;clear h2 HR3;go_wp2_with fail;refine (HI0.out w2 (HRD.out w2 HB2.out)).mono ?_;rintro e w3 ⟨rfl, hb3⟩;have HB3 := hid (HB2.out.trans (hb3.mono HB2.out.size));have HM3 := hid (HM2.out.bel hb3);clear hb3;go_wp2_with fail;refine (HA1.out w3 (HRD.out w3 HB3.out)).mono ?_;rintro e w4 ⟨rfl, hb4⟩;have HB4 := hid (HB3.out.trans (hb4.mono HB3.out.size));have HM4 := hid (HM3.out.bel hb4);clear hb4;go_wp2_with fail;refine (HI2.out w4 (HRD.out w4 HB4.out)).mono ?_;rintro e w6 ⟨rfl, hb6⟩;have HB6 := hid (HB4.out.trans (hb6.mono HB4.out.size));have HM6 := hid (HM4.out.bel hb6);clear hb6;go_wp2_with fail;refine (HCD.out w6 (HRD.out w6 HB6.out)).mono ?_;rintro e w7 ⟨hr, hb7⟩;have HB7 := hid (HB6.out.trans (hb7.mono HB6.out.size));have HM7 := hid (HM6.out.bel hb7);have hs6 := HM6.out.two;have hs7 := hb7.size;have HKN := hid (Blk.new w7 36 zCn);clear hb7 HCD
    cases Y with
    | none =>
     obtain ⟨V, c, j2, rfl, hV⟩ := hr;have HE : Hid (RES = none) := hid HR4.out;have HSX : Hid ((Tryz.prog.info? 36).map (·.size) = some V.size) := hid (by rw [Aa, hV.size]);have HSZ : Hid (zCn.size = V.size) := hid (by rw [hV.size]; rfl);have HOV := hid hV.one;clear hV
     go_upto_region 7 with ((with_reducible refine Ab rfl 36 _ _ rfl w7.heap.size V ?_ ?_ 36 _ HKN.out HSX.out HSZ.out HOV.out ?_); rfl; rfl; intro w8 hk8 hs8 hbl8 hoth8)
     have hz8 : Below w7.heap.size w7 w8 := ((Below.refl w7.heap.size w7).alloc (Nat.le_refl _) (.cells zCn 36)).trans (hbl8 _ (Nat.le_refl _));have HM8 := hid (HM7.out.bel hz8);clear hk8 hs8 hbl8 hoth8 hz8
     go_wp2_with (first
      | (refine Ac (by rfl) 45 _ rfl (w.heap.size + 1) rfl 45 _ (0, 0) _ rfl HM8.out.n Tryz.underlying45 Av ?_)
      | ((with_reducible refine Ab rfl 45 _ _ rfl w.heap.size zRl ?_ ?_ 45 zRl HM8.out.x Av rfl Bm ?_); rfl; rfl; intro w5 hk5 hs5 hbl5 hoth5))
     refine bodyPost_ret (Ax rfl _ _ w.heap.size _ _ _ rfl hk5 Tryz.underlying45 rfl Av) rfl ?_;exact LnA.no HE.out (HM8.out.be.trans (hbl5 w.heap.size (Nat.le_refl _)))
    | some cq =>
     obtain ⟨c, q⟩ := cq;obtain ⟨V, j, hj, rfl, rfl, hV⟩ := hr;have HSX : Hid ((Tryz.prog.info? 36).map (·.size) = some V.size) := hid (by rw [Aa, hV.size]);have HSZ : Hid (zCn.size = V.size) := hid (by rw [hV.size]; rfl);have HOV := hid hV.one;have hV' : CnV w7 (fun b => w.heap.size + 2 ≤ b ∧ b < w7.heap.size) V c := hV.keep fun b hb hl => ⟨⟨by omega, hl⟩, rfl⟩
     obtain ⟨B, bc, rfl, hrw7⟩ := hV'.open;have HV := hid hrw7;have HID := hid (fun W hW => BZ Pr.doW A cap L j W hW hL (by omega));rw [show bstr Pr.doW = (⟨#[100, 111]⟩ : ByteArray) from rfl] at HID;clear hV hV' hrw7
     go_upto_region 6 with ((with_reducible refine Ab rfl 36 _ _ rfl w7.heap.size #[.int .i64 c.op, .string (bstr c.text), .int .i64 c.num, .slice B c.kids.length bc] ?_ ?_ 36 _ HKN.out HSX.out HSZ.out HOV.out ?_); rfl; rfl; intro w8 hk8 hs8 hbl8 hoth8)
     have hz8 : Below w7.heap.size w7 w8 := ((Below.refl w7.heap.size w7).alloc (Nat.le_refl _) (.cells zCn 36)).trans (hbl8 _ (Nat.le_refl _));have HM8 := hid (HM7.out.bel hz8);have HB8 := hid (HB7.out.trans (hz8.mono HB7.out.size));have HV8 := hid (HV.out.below hz8);have HKC8 := hid hk8;have hs8b : w7.heap.size + 1 ≤ w8.heap.size := hk8.lt;clear hk8 hs8 hbl8 hoth8 hz8
     cases h3 : Pr.headIs Pr.doW (L.drop j) with
     | false =>
      rw [h3] at HID;have HE : Hid (RES = none) := hid (by rw [HR4.out]; unfold Pr.rC; simp only [h3]; rfl);clear h3
      go_upto_region 7 with (go_at_call 65; refine (HID.out w8 (HRD.out w8 HB8.out)).mono ?_; rintro e w9 ⟨rfl, hb9⟩; have HB9 := hid (HB8.out.trans (hb9.mono HB8.out.size)); have HM9 := hid (HM8.out.bel hb9); clear hb9)
      go_wp2_with (first
       | (refine Ac (by rfl) 45 _ rfl (w.heap.size + 1) rfl 45 _ (0, 0) _ rfl HM9.out.n Tryz.underlying45 Av ?_)
       | ((with_reducible refine Ab rfl 45 _ _ rfl w.heap.size zRl ?_ ?_ 45 zRl HM9.out.x Av rfl Bm ?_); rfl; rfl; intro w5 hk5 hs5 hbl5 hoth5))
      refine bodyPost_ret (Ax rfl _ _ w.heap.size _ _ _ rfl hk5 Tryz.underlying45 rfl Av) rfl ?_;exact LnA.no HE.out (HM9.out.be.trans (hbl5 w.heap.size (Nat.le_refl _)))
     | true =>
      rw [h3] at HID;have hjl : j < L.length := by
       rcases Nat.lt_or_ge j L.length with h | h
       ·exact h
       ·rw [List.drop_eq_nil_of_le h] at h3;cases h3
      have HR5 : Hid (RES = Pr.rE nm c (Pr.moreB [] (Pr.takeF 1 (L.drop (j + 1))))) := hid (by
       rw [HR4.out];unfold Pr.rC;simp only [h3, if_true];rw [List.tail_drop]
       cases ht : Pr.takeF 1 (L.drop (j + 1)) with
       | none => rfl
       | some aq =>
        obtain ⟨a, r⟩ := aq;show Pr.rE nm c (Pr.moreP _ [a] r) = Pr.rE nm c (Pr.moreA ([] ++ [a]) r);have hq := congrArg List.length (Pr.takeF_of ht);rw [List.length_cons, List.length_drop] at hq;rw [Pr.moreP_A (by omega)]
        rfl)
      clear h3 HR4;go_wp2_with fail;refine (HID.out w8 (HRD.out w8 HB8.out)).mono ?_;rintro e w9 ⟨rfl, hb9⟩;have HB9 := hid (HB8.out.trans (hb9.mono HB8.out.size));have HM9 := hid (HM8.out.bel hb9);have HKC9 := hid (HKC8.out.below hb9 HKC8.out.lt);have HV9 := hid (HV8.out.below hb9);have hs9 := hb9.size;clear hb9
      go_upto_region 8 with fail
      obtain ⟨b0, off0, hA0, hrg0⟩ := rk_at HRW2.out (show 1 < L.length by omega);subst hA0;have ht1 : w9.cell? ⟨b0, off0 + 2 + 1, none⟩ = some (.string (bstr nm)) := by
       have h := hrg0 1 _ rfl;rw [HNM.out] at h;have h2 := (HB9.out.cell (An h)).trans h;exact h2
      have htb : b0 < w9.heap.size := An ht1;have HSCL := hid (Ap c.op (bstr c.text) c.num B c.kids.length bc);obtain ⟨hq1, hq2, hq3⟩ := LqT.new (nm := nm) (bc := bc) HM9.out HV9.out (by omega);have HQ1 := hid hq1;have HQ3 := hid hq3;have hI1 : (1 : Int) < (L.length : Int) := by omega
      clear hrg0 hq1 hq2 hq3;refine wp_region_noPanic ?_;refine wp_region_held_drew (S := fun W => W.cell? ⟨b0, off0 + 2 + 1, none⟩ = some (.string (bstr nm)) ∧ Blk W w7.heap.size 36 #[.int .i64 c.op, .string (bstr c.text), .int .i64 c.num, .slice B c.kids.length bc]) (by kernel_rfl) (⟨ht1, HKC9.out⟩) (fun hHeld => ?_);refine wpAnyH_take (i := 0) (oi := _) (v := ?_) rfl (by kernel_rfl) (by kernel_rfl) (by kernel_rfl) (fun _ _ _ h => h) (Or.inl ⟨by kernel_rfl, ?_⟩) hHeld ?_;rotate_left
      ·intro wq hSw;go_simp
       (try with_reducible rfl)
      (try simp only [Act.put, pk1, pk2, pk3, pk4, pk5, pk6])
      refine wpAnyH_take (i := 1) (oi := _) (v := ?_) rfl (by kernel_rfl) (by kernel_rfl) (by kernel_rfl) (fun _ _ _ h => h) (Or.inl ⟨by kernel_rfl, ?_⟩) hHeld ?_;rotate_left
      ·intro wq hSw;go_simp
       (try with_reducible rfl)
      (try simp only [Act.put, pk1, pk2, pk3, pk4, pk5, pk6])
      refine wpAnyH_take (i := 2) (oi := _) (v := ?_) rfl (by kernel_rfl) (by kernel_rfl) (by kernel_rfl) (fun _ _ _ h => h) (Or.inl ⟨by kernel_rfl, ?_⟩) hHeld ?_;rotate_left
      ·intro wq hSw;go_simp
       (try with_reducible rfl)
      (try simp only [Act.put, pk1, pk2, pk3, pk4, pk5, pk6])
      refine wpAnyH_take (i := 3) (oi := _) (v := ?_) rfl (by kernel_rfl) (by kernel_rfl) (by kernel_rfl) (fun _ _ _ h => h) (Or.inl ⟨by kernel_rfl, ?_⟩) hHeld ?_;rotate_left
      ·intro wq hSw;have hSx := hSw.1;go_simp
       (try with_reducible rfl)
      (try simp only [Act.put, pk1, pk2, pk3, pk4, pk5, pk6])
      refine wpAnyH_take (i := 4) (oi := _) (v := _) rfl (by kernel_rfl) (by kernel_rfl) (by kernel_rfl) (fun _ _ _ h => h) (Ao (X := #[.int .i64 c.op, .string (bstr c.text), .int .i64 c.num, .slice B c.kids.length bc]) rfl Tryz.underlying36 HSCL.out (fun W h => h.2) (by kernel_rfl) (.tmp 7) (by kernel_rfl) (by kernel_rfl)) hHeld ?_
      (try simp only [Act.put, pk1, pk2, pk3, pk4, pk5, pk6])
      refine wpAnyH_take (i := 5) (oi := _) (v := ?_) rfl (by kernel_rfl) (by kernel_rfl) (by kernel_rfl) (fun _ _ _ h => h) (Or.inl ⟨by kernel_rfl, ?_⟩) hHeld ?_;rotate_left
      ·intro wq hSw;go_simp
       (try with_reducible rfl)
      (try simp only [Act.put, pk1, pk2, pk3, pk4, pk5, pk6])
      refine wpAnyH_ready (rs := [6]) (by kernel_rfl) (by simp) ?_;refine AllReadyH.cons (o := _) rfl (fun K hK => ?_) AllReadyH.nil;go_simp;have hz9 : Below w9.heap.size w9 (w9.drew.alloc (.cells zRl 45)) := (Below.refl _ w9).drew.alloc (Nat.le_refl _) _;have HT9 := hid (hz9.cell htb |>.trans ht1);have HC9 := hid (HKC9.out.below hz9 HKC9.out.lt);have HX9 := hid (Blk.new w9.drew 45 zRl);clear hz9;refine hK.out _ _ ⟨HT9.out, HC9.out⟩ (fun hHeld2 => ?_);clear hK K hHeld;have hHeld := hHeld2;clear hHeld2
      (try simp only [Act.put, pk1, pk2, pk3, pk4, pk5, pk6])
      refine wpAnyH_ready (rs := [7]) (by kernel_rfl) (by simp) ?_;refine AllReadyH.cons (o := _) rfl (fun K hK => ?_) AllReadyH.nil;rw [if_pos (by kernel_rfl)];refine wp_store_row 45 _ _ rfl w9.heap.size #[.string (bstr nm), .int .i64 c.op, .string (bstr c.text), .int .i64 c.num, .slice B c.kids.length bc, .slice none 0 0] rfl rfl 45 zRl HX9.out (C1 ..) rfl (by simp [Value.oneCell']) ?_;refine hK.out _ _ ⟨(HQ3.out.cell htb).trans ht1, (HQ3.out.block _ HKC9.out.lt).trans HKC9.out⟩ (fun hHeld2 => ?_);clear hK K hHeld;have hHeld := hHeld2;clear hHeld2
      (try simp only [Act.put, pk1, pk2, pk3, pk4, pk5, pk6])
      refine wpAnyH_done (by kernel_rfl) ?_ _;refine NoPanic.normal ?_;go_wp2_with fail
      go_loopw [8] (fun ix wr => ∃ (j : Nat) (al : List (List UInt8)) (D : Value), j < L.length ∧ ix = .int .i64 (j : Int) ∧ LqT w w9.heap.size nm c B bc al D wr ∧ Below w2.heap.size w2 wr ∧ Hid (RES = Pr.rE nm c (Pr.moreB al (Pr.takeF 1 (L.drop (j + 1))))) ∧ al.length ≤ j) (fun ix _ => L.length - (RowKit.intOf ix).toNat)
      case atStart => exact ⟨j, [], _, hjl, rfl, HQ1.out, HB9.out.trans (HQ3.out.mono HB9.out.size), HR5, Nat.zero_le _⟩
      case round =>
       obtain ⟨j, al, D, hjl, rfl, hT, hB, hrel, hal⟩ := hrel;have HTR := hid hT;have HBR := hid hB;obtain ⟨A0, c0, rfl, -⟩ := AU hT.own;have HAT := hid (fun W hW => Bk (some ⟨b0, off0, none⟩) cap L (j + 1) W hW hL (by omega));have HAL := hid (Pr.hd_lt (L := L) (i := j + 1));have HFY := hid (Pr.takeF_yes (f := 1) (r := L.drop (j + 1)) (by decide));have HFN := hid (Pr.takeF_no (f := 1) (r := L.drop (j + 1)));have hkd2 := Bb (Pr.hdT (L.drop (j + 1))).form;obtain ⟨a, ha⟩ : ∃ a, (Pr.hdT (L.drop (j + 1))).text = a := ⟨_, rfl⟩;obtain ⟨f1, hf⟩ : ∃ f, (Pr.hdT (L.drop (j + 1))).form = f := ⟨_, rfl⟩;have HHA := hid ha;rw [hf] at HAL HFY HFN hkd2 HAT;rw [ha] at HFY HAT;have hfd2 := BC (kdOf f1) (bstr a);clear hT hB ha hf;by_cases hf1 : f1 = 1
       case neg =>
        have HE : Hid (RES = none) := hid (by rw [hrel.out, HFN.out hf1]; rfl);rw [beq_eq_false_iff_ne.2 hf1] at hkd2;have hkd3 : (kdOf f1 != 119) = true := by rw [bne, hkd2]; rfl
        generalize kdOf f1 = kf at *;clear hf1;go_wp2_with fail;refine (HAT.out wr (HRD.out wr HBR.out)).mono ?_;rintro e w10 ⟨rfl, hb10⟩;have HMW := hid (HTR.out.bel hb10).m;clear hb10
        go_upto_region 11 with fail
        go_wp2_with (first
         | (refine Ac (by rfl) 45 _ rfl (w.heap.size + 1) rfl 45 _ (0, 0) _ rfl HMW.out.n Tryz.underlying45 Av ?_)
         | ((with_reducible refine Ab rfl 45 _ _ rfl w.heap.size zRl ?_ ?_ 45 zRl HMW.out.x Av rfl Bm ?_); rfl; rfl; intro w5 hk5 hs5 hbl5 hoth5))
        refine bodyPost_ret (Ax rfl _ _ w.heap.size _ _ _ rfl hk5 Tryz.underlying45 rfl Av) rfl ?_;exact LnA.no HE.out (HMW.out.be.trans (hbl5 w.heap.size (Nat.le_refl _)))
       have hj1 := HAL.out (by rw [hf1]; decide);have HTF := hid (HFY.out hf1);rw [beq_iff_eq.2 hf1] at hkd2;have hkd3 : (kdOf f1 != 119) = false := by rw [bne, hkd2]; rfl
       have HRA : Hid (RES = Pr.rE nm c (Pr.moreA (al ++ [a]) (L.drop (j + 2)))) := hid (by rw [hrel.out, HTF.out, List.tail_drop]; rfl);generalize kdOf f1 = kf at *;clear hf1 HFY HFN HAL hrel;go_wp2_with fail;refine (HAT.out wr (HRD.out wr HBR.out)).mono ?_;rintro e w10 ⟨rfl, hb10⟩;have HTW' := hid (HTR.out.bel hb10);have HBW' := hid (HBR.out.trans (hb10.mono HBR.out.size));clear hb10 HAT HTR HBR
       go_upto_region 12 with fail
       obtain ⟨wr, rfl⟩ : ∃ W, W = w10 := ⟨_, rfl⟩;have HTW := HTW';have HBW := HBW';clear HTW' HBW';have htc : wr.cell? ⟨b0, off0 + (j + 1) * 2 + 1, none⟩ = some (.string (bstr a)) := by
        obtain ⟨b7, off7, hA7, hrg7⟩ := rk_at (HRD.out wr HBW.out) hj1;injection hA7 with hA7;injection hA7 with hA7 hA7' _;subst hA7 hA7';have h := hrg7 1 _ rfl;rw [HHA.out] at h;exact h
       have hx5 : wr.cell? ⟨w9.heap.size, 5, none⟩ = some (.slice A0 al.length c0) := HTW.out.x.cell 5;have hI0 : (0 : Int) ≤ (j : Int) + 1 := by omega
       have hI1 : (j : Int) + 1 < (L.length : Int) := by omega
       refine wp_region_noPanic ?_;refine wp_region_held_drew (S := fun W => W.cell? ⟨b0, off0 + (j + 1) * 2 + 1, none⟩ = some (.string (bstr a))) (by kernel_rfl) (htc) (fun hHeld => ?_);refine wpAnyH_take (i := 0) (oi := _) (v := ?_) rfl (by kernel_rfl) (by kernel_rfl) (by kernel_rfl) (fun _ _ _ h => h) (Or.inl ⟨by kernel_rfl, ?_⟩) hHeld ?_;rotate_left
       ·intro wq hSw;go_simp
        (try with_reducible rfl)
       (try simp only [Act.put, pk1, pk2, pk3, pk4, pk5, pk6])
       refine wpAnyH_take (i := 2) (oi := _) (v := ?_) rfl (by kernel_rfl) (by kernel_rfl) (by kernel_rfl) (fun _ _ _ h => h) (Or.inl ⟨by kernel_rfl, ?_⟩) hHeld ?_;rotate_left
       ·intro wq hSw;go_simp
        (try with_reducible rfl)
       (try simp only [Act.put, pk1, pk2, pk3, pk4, pk5, pk6])
       refine wpAnyH_take (i := 3) (oi := _) (v := ?_) rfl (by kernel_rfl) (by kernel_rfl) (by kernel_rfl) (fun _ _ _ h => h) (Or.inl ⟨by kernel_rfl, ?_⟩) hHeld ?_;rotate_left
       ·intro wq hSw;go_simp
        (try with_reducible rfl)
       (try simp only [Act.put, pk1, pk2, pk3, pk4, pk5, pk6])
       refine wpAnyH_take (i := 4) (oi := _) (v := ?_) rfl (by kernel_rfl) (by kernel_rfl) (by kernel_rfl) (fun _ _ _ h => h) (Or.inl ⟨by kernel_rfl, ?_⟩) hHeld ?_;rotate_left
       ·intro wq hSw;go_simp
        (try with_reducible rfl)
       (try simp only [Act.put, pk1, pk2, pk3, pk4, pk5, pk6])
       refine wpAnyH_take (i := 5) (oi := _) (v := ?_) rfl (by kernel_rfl) (by kernel_rfl) (by kernel_rfl) (fun _ _ _ h => h) (Or.inl ⟨by kernel_rfl, ?_⟩) hHeld ?_;rotate_left
       ·intro wq hSw;go_simp
        (try with_reducible rfl)
       (try simp only [Act.put, pk1, pk2, pk3, pk4, pk5, pk6])
       refine wpAnyH_take (i := 6) (oi := _) (v := ?_) rfl (by kernel_rfl) (by kernel_rfl) (by kernel_rfl) (fun _ _ _ h => h) (Or.inl ⟨by kernel_rfl, ?_⟩) hHeld ?_;rotate_left
       ·intro wq hSw;go_simp
        (try with_reducible rfl)
       (try simp only [Act.put, pk1, pk2, pk3, pk4, pk5, pk6])
       refine wpAnyH_ready (rs := [1, 7]) (by kernel_rfl) (by simp) ?_;refine AllReadyH.cons (o := _) rfl (fun K hK => ?_) (AllReadyH.cons (o := _) rfl (fun K hK => ?_) AllReadyH.nil)
       ·go_simp;refine hK.out _ _ hHeld (fun hHeld2 => ?_);clear hK K hHeld;have hHeld := hHeld2;clear hHeld2
        (try simp only [Act.put, pk1, pk2, pk3, pk4, pk5, pk6])
        have hz14 : Below wr.heap.size wr (wr.alloc (.cells #[.string (bstr a)] 9)).drew := ((Below.refl _ wr).alloc (Nat.le_refl _) _).drew;have HT14 := hid (HTW.out.bel hz14);have HTC14 := hid ((hz14.cell (An htc)).trans htc);have HB14 := hid (HBW.out.trans (hz14.mono HBW.out.size));have HRL14 : Hid (Rd (wr.alloc (.cells #[.string (bstr a)] 9)).drew (some ⟨wr.heap.size, 0, none⟩) [a].length (strL [a])) := hid (Rd.litS wr [a]).drew;have HSG : Hid (w9.heap.size + 1 ≤ (wr.alloc (.cells #[.string (bstr a)] 9)).drew.heap.size) := hid (Nat.le_trans HTW.out.x.lt hz14.size);have HGB : Hid (w2.heap.size ≤ w9.heap.size) := hid HB9.out.size;clear hz14;refine wpAnyH_ready (rs := [7]) (by kernel_rfl) (by simp) ?_;refine AllReadyH.cons (o := _) rfl (fun K hK => ?_) AllReadyH.nil;go_simp;refine hK.out _ _ HTC14.out (fun hHeld2 => ?_);clear hK K hHeld;have hHeld := hHeld2;clear hHeld2
        (try simp only [Act.put, pk1, pk2, pk3, pk4, pk5, pk6])
        generalize hw14 : (wr.alloc (.cells #[.string (bstr a)] 9)).drew = w14 at *;clear hw14;refine wpAnyH_ready (rs := [8]) (by kernel_rfl) (by simp) ?_;refine AllReadyH.cons (o := _) rfl (fun K hK => ?_) AllReadyH.nil;refine DO rfl _ _ rfl _ (.slice A0 al.length c0) al [a] (w9.heap.size + 1) rfl (some ⟨wr.heap.size, 0, none⟩) 1 rfl HT14.out.own HRL14.out HSG.out (by simp; omega) ?_;intro v15 w15 ho15 hg15 hb15;obtain ⟨A9, c9, hv15⟩ := By ho15;have hv16 : v15 = .slice A9 (al.length + 1) c9 := by rw [hv15, List.length_append]; rfl
        subst hv16;clear hv15
        obtain ⟨hx15, hT17, hoth17, hb17⟩ := HT14.out.push (a := a) (by
         have h := ho15;unfold OwnS at h;rw [List.length_append, Bi] at h
         exact h) hg15
        obtain ⟨al2, hal2⟩ : ∃ al2, al ++ [a] = al2 := ⟨_, rfl⟩;have HLA : Hid (al2.length = al.length + 1) := hid (by rw [← hal2, List.length_append]; rfl);rw [hal2] at HRA hT17;clear hal2;have HX15 := hid hx15;have HT17 := hid hT17;have htc15 : w15.cell? ⟨b0, off0 + (j + 1) * 2 + 1, none⟩ = some (.string (bstr a)) := by
         have hb : Below (w9.heap.size + 1) w14 w15 := hb15 w14 (Below.refl _ _);exact (hb.cell (show b0 < w9.heap.size + 1 by omega)).trans HTC14.out
        have htc17 : (w15.setCell ⟨w9.heap.size, 5, none⟩ (.slice A9 (al.length + 1) c9)).cell? ⟨b0, off0 + (j + 1) * 2 + 1, none⟩ = some (.string (bstr a)) :=
         (World.cell?_of_block (show (w15.setCell ⟨w9.heap.size, 5, none⟩ (.slice A9 (al.length + 1) c9)).heap[b0]? = w15.heap[b0]? from Below.heap_setCell _ _ _ _ (show b0 ≠ w9.heap.size by omega))).trans htc15
        have HB17 : Hid (Below w2.heap.size w2 (w15.setCell ⟨w9.heap.size, 5, none⟩ (.slice A9 (al.length + 1) c9))) := hid ((HB14.out.trans ((hb15 w14 (Below.refl _ _)).mono (by have := HGB.out; omega))).setCell (by show w2.heap.size ≤ w9.heap.size; exact HGB.out) _);clear hx15 hT17 hoth17 hb17 hb15 hg15 ho15;refine hK.out _ _ htc15 (fun hHeld2 => ?_);clear hK K hHeld;have hHeld := hHeld2;clear hHeld2
        (try simp only [Act.put, pk1, pk2, pk3, pk4, pk5, pk6])
        refine wpAnyH_take (i := 9) (oi := _) (v := ?_) rfl (by kernel_rfl) (by kernel_rfl) (by kernel_rfl) (fun _ _ _ h => h) (Or.inl ⟨by kernel_rfl, ?_⟩) hHeld ?_;rotate_left
        ·intro wq hSw;go_simp
         (try with_reducible rfl)
        (try simp only [Act.put, pk1, pk2, pk3, pk4, pk5, pk6])
        have hx6 : w15.cell? ⟨w9.heap.size, 5, none⟩ = some (.slice A0 al.length c0) := HX15.out.cell 5;have hz6 := HX15.out.frozen 5;refine wpAnyH_ready (rs := [10]) (by kernel_rfl) (by simp) ?_;refine AllReadyH.cons (o := _) rfl (fun K hK => ?_) AllReadyH.nil;go_simp;refine hK.out _ _ htc17 (fun hHeld2 => ?_);clear hK K hHeld;have hHeld := hHeld2;clear hHeld2
        (try simp only [Act.put, pk1, pk2, pk3, pk4, pk5, pk6])
        refine wpAnyH_done (by kernel_rfl) ?_ _;refine NoPanic.normal ?_;generalize w15.setCell ⟨w9.heap.size, 5, none⟩ (.slice A9 (al.length + 1) c9) = w17 at *;clear hx6 hz6 htc15 htc17;by_cases hend : j + 2 = L.length
        ·have HE : Hid (RES = some ⟨nm, c, al2⟩) := hid (by
          rw [HRA.out, hend, List.drop_length, Pr.moreA_nil]
          rfl)
         have hq1 : ((j : Int) + 2 == (L.length : Int)) = true := beq_iff_eq.2 (by omega);have hq2 : (j + 2 == L.length) = true := beq_iff_eq.2 hend;have hq3 : ((j : Int) + 1 + 1 == (L.length : Int)) = true := beq_iff_eq.2 (by omega);have hq4 : (j + 1 + 1 == L.length) = true := beq_iff_eq.2 hend;obtain ⟨A8, c8, e9, hcap9, hrd9, hob9⟩ := AU HT17.out.own;injection e9 with e91 e92 e93;subst e91 e93;clear e92;have HX17 := hid HT17.out.x;have HSR := hid (C1 (bstr nm) c.op (bstr c.text) c.num B c.kids.length bc A9 (al.length + 1) c9);have HRD9 := hid hrd9;have HOB9 := hid hob9;have HCAP9 := hid hcap9;clear hend hrd9 hob9 hcap9
         go_wp2_with (first
          | (refine Ac (by rfl) 45 _ rfl w9.heap.size rfl 45 _ (0, 0) _ rfl HX17.out Tryz.underlying45 HSR.out ?_)
          | ((with_reducible refine Ab rfl 45 _ _ rfl w.heap.size #[.string (bstr nm), .int .i64 c.op, .string (bstr c.text), .int .i64 c.num, .slice B c.kids.length bc, .slice A9 (al.length + 1) c9] ?_ ?_ 45 zRl HT17.out.m.x HSR.out rfl (Fq ..) ?_); rfl; rfl; intro w5 hk5 hs5 hbl5 hoth5))
         refine bodyPost_ret (Ax rfl _ _ w.heap.size _ _ _ rfl hk5 Tryz.underlying45 rfl HSR.out) rfl ?_;refine LnA.yes HE.out ⟨B, bc, A9, c9, by rw [HLA.out], HT17.out.cn.keep (fun b hb hl => ⟨by omega, hoth5 b (by omega)⟩), ?_, HCAP9.out, fun a' ha hn => ?_⟩ (HT17.out.m.be.trans (hbl5 w.heap.size (Nat.le_refl _)))
         ·have hr9 := HRD9.out;rw [Nat.mul_one] at hr9;refine CW hr9 (fun a' ha hn => hoth5 _ ?_);have := (HT17.out.own.lt _ (HOB9.out a' ha)).1;have := HT17.out.g;omega
         ·have := (HT17.out.own.lt _ (HOB9.out a' ha)).1;have := HT17.out.g;show w.heap.size ≤ a'.block;omega
        ·have hq1 : ((j : Int) + 2 == (L.length : Int)) = false := beq_eq_false_iff_ne.2 (by omega);have hq2 : (j + 2 == L.length) = false := beq_eq_false_iff_ne.2 hend;have hq3 : ((j : Int) + 1 + 1 == (L.length : Int)) = false := beq_eq_false_iff_ne.2 (by omega);have hq4 : (j + 1 + 1 == L.length) = false := beq_eq_false_iff_ne.2 hend;obtain ⟨b7, off7, hA7, hrg7⟩ := rk_at (HRD.out w17 HB17.out) (show j + 2 < L.length by omega);injection hA7 with hA7;injection hA7 with hA7 hA7' _;subst hA7 hA7';have hv0 : w17.cell? ⟨b0, off0 + (j + 2) * 2, none⟩ = some (.int .u8 (kdOf (Pr.hdT (L.drop (j + 2))).form)) := hrg7 0 _ rfl;have hI0b : (0 : Int) ≤ (j : Int) + 1 + 1 := by omega
         have hI0c : (0 : Int) ≤ (j : Int) + 2 := by omega
         have hI2 : (j : Int) + 2 < (L.length : Int) := by omega
         have hI3 : (j : Int) + 1 + 1 < (L.length : Int) := by omega
         have hkc := (Db (Pr.hdT (L.drop (j + 2))).form).2.2.2;have hne : L.drop (j + 2) ≠ [] := fun e => by
          have := congrArg List.length e;rw [List.length_drop, List.length_nil] at this;omega
         by_cases h5 : (Pr.hdT (L.drop (j + 2))).form = 5
         ·have HN : Hid (RES = Pr.rE nm c (Pr.moreB al2 (Pr.takeF 1 (L.drop (j + 2 + 1))))) := hid (by rw [HRA.out, Pr.moreA_more h5, List.tail_drop]);rw [beq_iff_eq.2 h5] at hkc;generalize kdOf (Pr.hdT (L.drop (j + 2))).form = kc at *;have hkn : (kc != 44) = false := by rw [bne, hkc]; rfl
          clear h5 hrg7 hne;go_wp2_with fail
          go_roundw
          case rel => exact ⟨j + 2, al2, _, by omega, by go_num, HT17.out, HB17.out, HN, by have := HLA.out; omega⟩
          case measure => simp [RowKit.intOf]; omega
         ·have HE : Hid (RES = none) := hid (by rw [HRA.out, Pr.moreA_no h5 hne]; rfl);rw [beq_eq_false_iff_ne.2 h5] at hkc;generalize kdOf (Pr.hdT (L.drop (j + 2))).form = kc at *;have hkn : (kc != 44) = true := by rw [bne, hkc]; rfl
          have HM17 := hid HT17.out.m;clear h5 hrg7 hne
          go_upto_region 17 with fail
          go_wp2_with (first
           | (refine Ac (by rfl) 45 _ rfl (w.heap.size + 1) rfl 45 _ (0, 0) _ rfl HM17.out.n Tryz.underlying45 Av ?_)
           | ((with_reducible refine Ab rfl 45 _ _ rfl w.heap.size zRl ?_ ?_ 45 zRl HM17.out.x Av rfl Bm ?_); rfl; rfl; intro w5 hk5 hs5 hbl5 hoth5))
          refine bodyPost_ret (Ax rfl _ _ w.heap.size _ _ _ rfl hk5 Tryz.underlying45 rfl Av) rfl ?_;exact LnA.no HE.out (HM17.out.be.trans (hbl5 w.heap.size (Nat.le_refl _)))
       ·have hz14 : Below wr.heap.size wr (wr.alloc (.cells #[.string (bstr a)] 9)).drew := ((Below.refl _ wr).alloc (Nat.le_refl _) _).drew;have HT14 := hid (HTW.out.bel hz14);have HTC14 := hid ((hz14.cell (An htc)).trans htc);have HB14 := hid (HBW.out.trans (hz14.mono HBW.out.size));have HRL14 : Hid (Rd (wr.alloc (.cells #[.string (bstr a)] 9)).drew (some ⟨wr.heap.size, 0, none⟩) [a].length (strL [a])) := hid (Rd.litS wr [a]).drew;have HSG : Hid (w9.heap.size + 1 ≤ (wr.alloc (.cells #[.string (bstr a)] 9)).drew.heap.size) := hid (Nat.le_trans HTW.out.x.lt hz14.size);have HGB : Hid (w2.heap.size ≤ w9.heap.size) := hid HB9.out.size;clear hz14;go_simp;refine hK.out _ _ HTC14.out (fun hHeld2 => ?_);clear hK K hHeld;have hHeld := hHeld2;clear hHeld2
        (try simp only [Act.put, pk1, pk2, pk3, pk4, pk5, pk6])
        have hx5b : (wr.alloc (.cells #[.string (bstr a)] 9)).cell? ⟨w9.heap.size, 5, none⟩ = some (.slice A0 al.length c0) := HT14.out.x.cell 5;refine wpAnyH_ready (rs := [1]) (by kernel_rfl) (by simp) ?_;refine AllReadyH.cons (o := _) rfl (fun K hK => ?_) AllReadyH.nil;go_simp;refine hK.out _ _ HTC14.out (fun hHeld2 => ?_);clear hK K hHeld;have hHeld := hHeld2;clear hHeld2
        (try simp only [Act.put, pk1, pk2, pk3, pk4, pk5, pk6])
        clear hx5b;generalize hw14 : (wr.alloc (.cells #[.string (bstr a)] 9)).drew = w14 at *;clear hw14;refine wpAnyH_ready (rs := [8]) (by kernel_rfl) (by simp) ?_;refine AllReadyH.cons (o := _) rfl (fun K hK => ?_) AllReadyH.nil;refine DO rfl _ _ rfl _ (.slice A0 al.length c0) al [a] (w9.heap.size + 1) rfl (some ⟨wr.heap.size, 0, none⟩) 1 rfl HT14.out.own HRL14.out HSG.out (by simp; omega) ?_;intro v15 w15 ho15 hg15 hb15;obtain ⟨A9, c9, hv15⟩ := By ho15;have hv16 : v15 = .slice A9 (al.length + 1) c9 := by rw [hv15, List.length_append]; rfl
        subst hv16;clear hv15
        obtain ⟨hx15, hT17, hoth17, hb17⟩ := HT14.out.push (a := a) (by
         have h := ho15;unfold OwnS at h;rw [List.length_append, Bi] at h
         exact h) hg15
        obtain ⟨al2, hal2⟩ : ∃ al2, al ++ [a] = al2 := ⟨_, rfl⟩;have HLA : Hid (al2.length = al.length + 1) := hid (by rw [← hal2, List.length_append]; rfl);rw [hal2] at HRA hT17;clear hal2;have HX15 := hid hx15;have HT17 := hid hT17;have htc15 : w15.cell? ⟨b0, off0 + (j + 1) * 2 + 1, none⟩ = some (.string (bstr a)) := by
         have hb : Below (w9.heap.size + 1) w14 w15 := hb15 w14 (Below.refl _ _);exact (hb.cell (show b0 < w9.heap.size + 1 by omega)).trans HTC14.out
        have htc17 : (w15.setCell ⟨w9.heap.size, 5, none⟩ (.slice A9 (al.length + 1) c9)).cell? ⟨b0, off0 + (j + 1) * 2 + 1, none⟩ = some (.string (bstr a)) :=
         (World.cell?_of_block (show (w15.setCell ⟨w9.heap.size, 5, none⟩ (.slice A9 (al.length + 1) c9)).heap[b0]? = w15.heap[b0]? from Below.heap_setCell _ _ _ _ (show b0 ≠ w9.heap.size by omega))).trans htc15
        have HB17 : Hid (Below w2.heap.size w2 (w15.setCell ⟨w9.heap.size, 5, none⟩ (.slice A9 (al.length + 1) c9))) := hid ((HB14.out.trans ((hb15 w14 (Below.refl _ _)).mono (by have := HGB.out; omega))).setCell (by show w2.heap.size ≤ w9.heap.size; exact HGB.out) _);clear hx15 hT17 hoth17 hb17 hb15 hg15 ho15;refine hK.out _ _ htc15 (fun hHeld2 => ?_);clear hK K hHeld;have hHeld := hHeld2;clear hHeld2
        (try simp only [Act.put, pk1, pk2, pk3, pk4, pk5, pk6])
        refine wpAnyH_take (i := 9) (oi := _) (v := ?_) rfl (by kernel_rfl) (by kernel_rfl) (by kernel_rfl) (fun _ _ _ h => h) (Or.inl ⟨by kernel_rfl, ?_⟩) hHeld ?_;rotate_left
        ·intro wq hSw;go_simp
         (try with_reducible rfl)
        (try simp only [Act.put, pk1, pk2, pk3, pk4, pk5, pk6])
        have hx6 : w15.cell? ⟨w9.heap.size, 5, none⟩ = some (.slice A0 al.length c0) := HX15.out.cell 5;have hz6 := HX15.out.frozen 5;refine wpAnyH_ready (rs := [10]) (by kernel_rfl) (by simp) ?_;refine AllReadyH.cons (o := _) rfl (fun K hK => ?_) AllReadyH.nil;go_simp;refine hK.out _ _ htc17 (fun hHeld2 => ?_);clear hK K hHeld;have hHeld := hHeld2;clear hHeld2
        (try simp only [Act.put, pk1, pk2, pk3, pk4, pk5, pk6])
        refine wpAnyH_done (by kernel_rfl) ?_ _;refine NoPanic.normal ?_;generalize w15.setCell ⟨w9.heap.size, 5, none⟩ (.slice A9 (al.length + 1) c9) = w17 at *;clear hx6 hz6 htc15 htc17;by_cases hend : j + 2 = L.length
        ·have HE : Hid (RES = some ⟨nm, c, al2⟩) := hid (by
          rw [HRA.out, hend, List.drop_length, Pr.moreA_nil]
          rfl)
         have hq1 : ((j : Int) + 2 == (L.length : Int)) = true := beq_iff_eq.2 (by omega);have hq2 : (j + 2 == L.length) = true := beq_iff_eq.2 hend;have hq3 : ((j : Int) + 1 + 1 == (L.length : Int)) = true := beq_iff_eq.2 (by omega);have hq4 : (j + 1 + 1 == L.length) = true := beq_iff_eq.2 hend;obtain ⟨A8, c8, e9, hcap9, hrd9, hob9⟩ := AU HT17.out.own;injection e9 with e91 e92 e93;subst e91 e93;clear e92;have HX17 := hid HT17.out.x;have HSR := hid (C1 (bstr nm) c.op (bstr c.text) c.num B c.kids.length bc A9 (al.length + 1) c9);have HRD9 := hid hrd9;have HOB9 := hid hob9;have HCAP9 := hid hcap9;clear hend hrd9 hob9 hcap9
         go_wp2_with (first
          | (refine Ac (by rfl) 45 _ rfl w9.heap.size rfl 45 _ (0, 0) _ rfl HX17.out Tryz.underlying45 HSR.out ?_)
          | ((with_reducible refine Ab rfl 45 _ _ rfl w.heap.size #[.string (bstr nm), .int .i64 c.op, .string (bstr c.text), .int .i64 c.num, .slice B c.kids.length bc, .slice A9 (al.length + 1) c9] ?_ ?_ 45 zRl HT17.out.m.x HSR.out rfl (Fq ..) ?_); rfl; rfl; intro w5 hk5 hs5 hbl5 hoth5))
         refine bodyPost_ret (Ax rfl _ _ w.heap.size _ _ _ rfl hk5 Tryz.underlying45 rfl HSR.out) rfl ?_;refine LnA.yes HE.out ⟨B, bc, A9, c9, by rw [HLA.out], HT17.out.cn.keep (fun b hb hl => ⟨by omega, hoth5 b (by omega)⟩), ?_, HCAP9.out, fun a' ha hn => ?_⟩ (HT17.out.m.be.trans (hbl5 w.heap.size (Nat.le_refl _)))
         ·have hr9 := HRD9.out;rw [Nat.mul_one] at hr9;refine CW hr9 (fun a' ha hn => hoth5 _ ?_);have := (HT17.out.own.lt _ (HOB9.out a' ha)).1;have := HT17.out.g;omega
         ·have := (HT17.out.own.lt _ (HOB9.out a' ha)).1;have := HT17.out.g;show w.heap.size ≤ a'.block;omega
        ·have hq1 : ((j : Int) + 2 == (L.length : Int)) = false := beq_eq_false_iff_ne.2 (by omega);have hq2 : (j + 2 == L.length) = false := beq_eq_false_iff_ne.2 hend;have hq3 : ((j : Int) + 1 + 1 == (L.length : Int)) = false := beq_eq_false_iff_ne.2 (by omega);have hq4 : (j + 1 + 1 == L.length) = false := beq_eq_false_iff_ne.2 hend;obtain ⟨b7, off7, hA7, hrg7⟩ := rk_at (HRD.out w17 HB17.out) (show j + 2 < L.length by omega);injection hA7 with hA7;injection hA7 with hA7 hA7' _;subst hA7 hA7';have hv0 : w17.cell? ⟨b0, off0 + (j + 2) * 2, none⟩ = some (.int .u8 (kdOf (Pr.hdT (L.drop (j + 2))).form)) := hrg7 0 _ rfl;have hI0b : (0 : Int) ≤ (j : Int) + 1 + 1 := by omega
         have hI0c : (0 : Int) ≤ (j : Int) + 2 := by omega
         have hI2 : (j : Int) + 2 < (L.length : Int) := by omega
         have hI3 : (j : Int) + 1 + 1 < (L.length : Int) := by omega
         have hkc := (Db (Pr.hdT (L.drop (j + 2))).form).2.2.2;have hne : L.drop (j + 2) ≠ [] := fun e => by
          have := congrArg List.length e;rw [List.length_drop, List.length_nil] at this;omega
         by_cases h5 : (Pr.hdT (L.drop (j + 2))).form = 5
         ·have HN : Hid (RES = Pr.rE nm c (Pr.moreB al2 (Pr.takeF 1 (L.drop (j + 2 + 1))))) := hid (by rw [HRA.out, Pr.moreA_more h5, List.tail_drop]);rw [beq_iff_eq.2 h5] at hkc;generalize kdOf (Pr.hdT (L.drop (j + 2))).form = kc at *;have hkn : (kc != 44) = false := by rw [bne, hkc]; rfl
          clear h5 hrg7 hne;go_wp2_with fail
          go_roundw
          case rel => exact ⟨j + 2, al2, _, by omega, by go_num, HT17.out, HB17.out, HN, by have := HLA.out; omega⟩
          case measure => simp [RowKit.intOf]; omega
         ·have HE : Hid (RES = none) := hid (by rw [HRA.out, Pr.moreA_no h5 hne]; rfl);rw [beq_eq_false_iff_ne.2 h5] at hkc;generalize kdOf (Pr.hdT (L.drop (j + 2))).form = kc at *;have hkn : (kc != 44) = true := by rw [bne, hkc]; rfl
          have HM17 := hid HT17.out.m;clear h5 hrg7 hne
          go_upto_region 17 with fail
          go_wp2_with (first
           | (refine Ac (by rfl) 45 _ rfl (w.heap.size + 1) rfl 45 _ (0, 0) _ rfl HM17.out.n Tryz.underlying45 Av ?_)
           | ((with_reducible refine Ab rfl 45 _ _ rfl w.heap.size zRl ?_ ?_ 45 zRl HM17.out.x Av rfl Bm ?_); rfl; rfl; intro w5 hk5 hs5 hbl5 hoth5))
          refine bodyPost_ret (Ax rfl _ _ w.heap.size _ _ _ rfl hk5 Tryz.underlying45 rfl Av) rfl ?_;exact LnA.no HE.out (HM17.out.be.trans (hbl5 w.heap.size (Nat.le_refl _)))
end Go.Proofs.YtchkiegehejfmaaGreatDoor
namespace Pr
structure Fine (x : Rl) : Prop where
 name : okName true x.name = true
 deep : depth x.wh ≤ 8
 tree : treeE x.wh = 0
 some_ : x.acts ≠ []
 acts : ∀ a ∈ x.acts, isAct a = true
 few : x.acts.length ≤ 5
theorem DT : ∀ (l earlier : List Str), actsE earlier l = 0 → ∀ a ∈ l, isAct a = true
 | [], _, _, a, ha => by cases ha
 | b :: l, earlier, h, a, ha => by
  rw [actsE] at h;split at h
  ·cases h
  ·rename_i g1;split at h
   ·cases h
   ·rcases List.mem_cons.1 ha with e | ha
    ·subst e;exact Bool.not_eq_false _ ▸ g1
    ·exact DT l _ h a ha
theorem Gn {earlier : List Rl} {x : Rl} (h : ruleE earlier x = 0) : Fine x := by
 unfold ruleE at h;split at h
 ·cases h
 ·rename_i g1;split at h
  ·cases h
  ·split at h
   ·cases h
   ·rename_i g3;split at h
    ·rename_i g4; exact absurd h g4
    ·rename_i g4;unfold doE at h;split at h
     ·cases h
     ·rename_i g5;split at h
      ·cases h
      ·rename_i g6;exact ⟨Bool.not_eq_false _ ▸ g1, by omega, Classical.not_not.1 g4, g5, DT _ _ h, by omega⟩
theorem rules_fine : ∀ (l earlier : List Rl), rulesE earlier l = 0 → ∀ x ∈ l, Fine x
 | [], _, _, x, hx => by cases hx
 | y :: l, earlier, h, x, hx => by
  rw [rulesE] at h;by_cases hy : ruleE earlier y = 0
  ·rw [if_neg (fun e => e hy)] at h;rcases List.mem_cons.1 hx with e | hx
   ·rw [e]; exact Gn hy
   ·exact rules_fine l _ h x hx
  ·rw [if_pos hy] at h; exact absurd h hy
end Pr
