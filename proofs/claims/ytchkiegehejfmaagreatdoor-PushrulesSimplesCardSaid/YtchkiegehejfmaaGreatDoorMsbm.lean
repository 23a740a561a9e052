/- The texts Zl, Zm, Gs of this proof, one behind the other. -/
import Derived.Test.YtchkiegehejfmaaGreatDoorMsbh
import Derived.Test.YtchkiegehejfmaaGreatDoorMsbg
import Derived.Test.YtchkiegehejfmaaGreatDoorMsbl
import Derived.Test.YtchkiegehejfmaaGreatDoorMsaq
import Derived.Test.YtchkiegehejfmaaGreatDoorMsao
import Derived.Test.YtchkiegehejfmaaGreatDoorMsba
set_option linter.unusedSimpArgs false
set_option maxHeartbeats 16000000
set_option maxRecDepth 100000
set_option linter.unusedVariables false
namespace Go.Proofs.YtchkiegehejfmaaGreatDoor
open Go.RowKit Go.Lib
theorem BI (s : List UInt8) : (Pr.serverOf s).length ≤ s.length := by
 unfold Pr.serverOf
 cases hx : Pr.splitP [64, 33] s with
 | none => simp
 | some p =>
  obtain ⟨a, b⟩ := p;show b.length ≤ _
  cases s with
  | nil => cases hx
  | cons c r =>
   unfold Pr.splitP at hx;simp only at hx;split at hx
   ·cases hc : Pr.cutC r with
    | none => rw [hc] at hx; cases hx
    | some p2 =>
     obtain ⟨a2, b2⟩ := p2;rw [hc] at hx;simp only at hx;split at hx
     ·injection hx with hx;injection hx with h1 h2;have := Pr.cutC_len r a2 b2 hc;subst h2;rw [List.length_cons];omega
     ·cases hx
   ·cases hx
theorem Du (S : ByteArray) (m : Int) (w : World) (hs : S.size ≤ 10000) (hm : w.cell? ⟨0, 0, none⟩ = some (.int .i64 m)) :
  Calls Tryz.prog 21 #[.string S] w fun e w' => ((∃ A cap, e = .returned (.slice A (Pr.usualP S.data.toList).length cap) ∧ (Pr.usualP S.data.toList).length ≤ cap ∧ RlRow w' (fun b => w.heap.size ≤ b) A (Pr.usualP S.data.toList)) ∧ Below w.heap.size w w') := by
 have HU := hid (GM S m w (by omega) hm);have HSO := hid (fun w hm => Ec S m w (by omega) hm);have hsl := BI S.data.toList;rw [← Am] at hsl;have hm0 := An hm;unfold Pr.usualP Pr.usualT;by_cases hE : Pr.userE S.data.toList = 0
 ·rw [if_neg (by simp [hE])];rw [hE] at HU;generalize Pr.serverOf S.data.toList = so at *;clear hE;have hso : (bstr so).size ≤ 10000 := by rw [Ai]; omega
  have HBS : Hid ((bstr so).data.toList = so) := hid rfl;generalize bstr so = SO at *;obtain ⟨P, hP⟩ : ∃ P, Pr.parseP (Pr.usHead ++ (so ++ Pr.usTail)) = P := ⟨_, rfl⟩;rw [hP];have HPP := hid hP
  have HUL : Hid ((Pr.usHead ++ (so ++ Pr.usTail)).length ≤ 1000000) := hid (by
   rw [List.length_append, List.length_append, show Pr.usHead.length = 314 from rfl, show Pr.usTail.length = 90 from rfl]
   omega)
  clear hP;go_enter Tryz.func21, Tryz.ntmps21;go_wp2_with (go_at_call 49; refine HU.out.mono ?_; rintro e w1 ⟨rfl, hb1⟩; have hm1 := hb1.cell hm0 |>.trans hm);go_wp2_with (go_at_call 50; refine (HSO.out w1 hm1).mono ?_; rintro e w2 ⟨rfl, hb2⟩);have hm2 := hb2.cell (An hm1) |>.trans hm1
  have HB2 := hid (hb1.trans (hb2.mono hb1.size));have hX : ∀ a b c d : ByteArray, ((((a ++ SO) ++ b) ++ c) ++ d).data.toList = a.data.toList ++ (so ++ (b.data.toList ++ (c.data.toList ++ d.data.toList))) := fun a b c d => by
   rw [Au, Au, Au, Au, HBS.out];simp only [List.append_assoc]
  refine (B8 _ m w2 ?_ hm2).mono ?_
  ·rw [Am, hX];exact HUL.out
  ·rintro e w3 ⟨⟨A, cap, he, hc, hr⟩, hb3⟩;rw [hX] at he hc hr;have hr1 : RlRow w3 (fun b => w2.heap.size ≤ b) A (Pr.parseP (Pr.usHead ++ (so ++ Pr.usTail))).1 := hr;have hc' : (Pr.parseP (Pr.usHead ++ (so ++ Pr.usTail))).1.length ≤ cap := hc;have he' : e = .returned (.tuple #[.slice A (Pr.parseP (Pr.usHead ++ (so ++ Pr.usTail))).1.length cap, .int .i64 (Pr.parseP (Pr.usHead ++ (so ++ Pr.usTail))).2.1, .int .i64 (Pr.parseP (Pr.usHead ++ (so ++ Pr.usTail))).2.2]) := he;clear he hc hr;rw [HPP.out] at hr1 hc' he';have hr' : RlRow w3 (fun b => w.heap.size ≤ b) A P.1 := hr1.keep fun b hb _ => ⟨Nat.le_trans HB2.out.size hb, rfl⟩
   clear hr1 hX;have HR := hid hr';have HC := hid hc';subst he';have HB3 := hid (HB2.out.trans (hb3.mono HB2.out.size));clear hr' hc' hb1 hb2 hb3;go_wp2_with fail;go_ret;exact ⟨⟨A, cap, rfl, HC.out, HR.out⟩, HB3.out⟩
 ·rw [if_pos hE];generalize Pr.userE S.data.toList = F at *;have hFb : (F == 0) = false := beq_eq_false_iff_ne.2 hE;have hFn : (F != 0) = true := by rw [bne, hFb]; rfl
  clear hE;go_enter Tryz.func21, Tryz.ntmps21;go_wp2_with (go_at_call 49; refine HU.out.mono ?_; rintro e w1 ⟨rfl, hb1⟩);go_ret;exact ⟨⟨none, 0, rfl, Nat.le_refl _, fun i r h => by cases h⟩, hb1⟩
end Go.Proofs.YtchkiegehejfmaaGreatDoor
namespace Pr
open Go
def goneC : Cn := .mk 17 [] 0 []
def twiceC : Cn := .mk 4 [] 0 [.mk 4 [] 0 [.mk 17 [] 0 []]]
theorem twice_simple : simple twiceC = goneC := by kernel_rfl
theorem twice_same : same goneC goneC = true := by kernel_rfl
end Pr
namespace Go.Proofs.YtchkiegehejfmaaGreatDoor
open Go.RowKit Go.Lib
abbrev X1 : Array Value := #[.int .i64 17, .string ⟨#[]⟩, .int .i64 0, .slice none 0 0]
abbrev X3 (n : Nat) : Array Value := #[.int .i64 4, .string ⟨#[]⟩, .int .i64 0, .slice (some ⟨n + 1, 0, none⟩) 1 1]
abbrev X4 (n : Nat) : Array Value := #[.int .i64 4, .string ⟨#[]⟩, .int .i64 0, .slice (some ⟨n + 1 + 1, 0, none⟩) 1 1]
structure WkR (w : World) (A D K : Option Addr) (b off kb ko db do_ kc dc : Nat) : Prop where
 a : A = some ⟨b, off, none⟩
 k : K = some ⟨kb, ko, none⟩
 d : D = some ⟨db, do_, none⟩
 c1 : w.cell? ⟨b, off + 1, none⟩ = some (.int .i64 2)
 c4 : w.cell? ⟨b, off + 1 + 3, none⟩ = some (.slice K 2 kc)
 c5 : w.cell? ⟨b, off + 5, none⟩ = some (.slice D 1 dc)
 k2 : w.cell? ⟨kb, ko + 2, none⟩ = some (.int .i64 11)
 d0 : w.cell? ⟨db, do_, none⟩ = some (.string ⟨#[110, 111, 116, 105, 102, 121]⟩)
theorem DI : Pr.wakeR.Good := ⟨by decide, by simp [Pr.wakeR, Pr.wakeC, Pr.small, Pr.smallL], by decide, by decide⟩
structure Wk7 (w3 W : World) (n : Nat) : Prop where
 be : Below w3.heap.size w3 W
 g : Blk W n 36 X1
 t : Blk W (n + 1 + 1 + 1) 36 (X4 n)
 cg : CnV W (fun _ => True) X1 Pr.goneC
 ct : CnV W (fun _ => True) (X4 n) Pr.twiceC
theorem CnRow.one {w : World} {ok : Nat → Prop} {b : Nat} {X : List Value} {c : Pr.Cn} (hok : ok b) (hb : Blk w b 36 X.toArray) (hl : X.length = 4) (hc : CnV w ok X.toArray c) : CnRow w ok (some ⟨b, 0, none⟩) [c] := fun i c' hi => by
 cases i with
 | zero =>
  injection hi with hi;subst hi;exact ⟨b, 0, X, rfl, hok, fun j v hj => by rw [Nat.zero_mul, Nat.add_zero, Nat.zero_add, hb.cell j, List.getElem?_toArray]; exact hj, hl, hc⟩
 | succ i => cases hi
theorem Wk7.of (w3 : World) : Wk7 w3 ((((w3.alloc (.cells X1 36)).alloc (.cells X1 36)).alloc (.cells (X3 w3.heap.size) 36)).alloc (.cells (X4 w3.heap.size) 36)) w3.heap.size := by
 have s1 : (w3.alloc (.cells X1 36)).heap.size = w3.heap.size + 1 := World.size_alloc ..
 have s2 : ((w3.alloc (.cells X1 36)).alloc (.cells X1 36)).heap.size = w3.heap.size + 1 + 1 := by rw [World.size_alloc, s1]
 have s3 : (((w3.alloc (.cells X1 36)).alloc (.cells X1 36)).alloc (.cells (X3 w3.heap.size) 36)).heap.size = w3.heap.size + 1 + 1 + 1 := by rw [World.size_alloc, s2]
 have b1 := ((Blk.new w3 36 X1).alloc (.cells X1 36)).alloc (.cells (X3 w3.heap.size) 36) |>.alloc (.cells (X4 w3.heap.size) 36)
 have b2 := (Blk.new (w3.alloc (.cells X1 36)) 36 X1).alloc (.cells (X3 w3.heap.size) 36) |>.alloc (.cells (X4 w3.heap.size) 36)
 have b3 := (Blk.new ((w3.alloc (.cells X1 36)).alloc (.cells X1 36)) 36 (X3 w3.heap.size)).alloc (.cells (X4 w3.heap.size) 36);have b4 := Blk.new (((w3.alloc (.cells X1 36)).alloc (.cells X1 36)).alloc (.cells (X3 w3.heap.size) 36)) 36 (X4 w3.heap.size);rw [s1] at b2;rw [s2] at b3;rw [s3] at b4;have hb : Below w3.heap.size w3 ((((w3.alloc (.cells X1 36)).alloc (.cells X1 36)).alloc (.cells (X3 w3.heap.size) 36)).alloc (.cells (X4 w3.heap.size) 36)) := (((((Below.refl w3.heap.size w3).alloc (Nat.le_refl _) _).alloc (by omega) _).alloc (by omega) _).alloc (by omega) _);generalize (((w3.alloc (.cells X1 36)).alloc (.cells X1 36)).alloc (.cells (X3 w3.heap.size) 36)).alloc (.cells (X4 w3.heap.size) 36) = W at *;have cg : CnV W (fun _ => True) X1 Pr.goneC := CnV.make (n := 0) (t := []) (cap := 0) CnRow.nil;have cn : CnV W (fun _ => True) (X3 w3.heap.size) (.mk 4 [] 0 [Pr.goneC]) := CnV.make (n := 0) (t := []) (cap := 1) (CnRow.one (X := X1.toList) trivial b2 rfl cg);exact ⟨hb, b1, b4, cg, CnV.make (n := 0) (t := []) (cap := 1) (CnRow.one (X := (X3 w3.heap.size).toList) trivial b3 rfl cn)⟩
theorem WkR.bel {w w' : World} {A D K : Option Addr} {b off kb ko db do_ kc dc : Nat} (h : WkR w A D K b off kb ko db do_ kc dc) (hb : Below w.heap.size w w') : WkR w' A D K b off kb ko db do_ kc dc :=
 ⟨h.a, h.k, h.d, (hb.cell (An h.c1)).trans h.c1, (hb.cell (An h.c4)).trans h.c4, (hb.cell (An h.c5)).trans h.c5, (hb.cell (An h.k2)).trans h.k2, (hb.cell (An h.d0)).trans h.d0⟩
theorem WkR.of {w : World} {ok : Nat → Prop} {A : Option Addr} (h : RlRow w ok A [Pr.wakeR]) : ∃ D K b off kb ko db do_ kc dc, WkR w A D K b off kb ko db do_ kc dc := by
 obtain ⟨b, off, X, hA, hok, hr, hl, K, kc, D, dc, hX, hrow, hrd, hdc, hdo⟩ := h 0 Pr.wakeR rfl;obtain ⟨kb, ko, KX, hK, hok2, hr2, hl2, hc2⟩ := hrow 0 (.mk 5 [] 11 []) rfl;obtain ⟨db, do_, hD, hc3⟩ := hrd.2 0 _ (show (strL Pr.wakeR.acts)[0]? = some (.string (bstr Pr.notifyW)) from rfl);obtain ⟨A2, cap2, hKX, -⟩ := hc2.open;have e : X = #[.string (bstr Pr.wakeR.name), .int .i64 Pr.wakeR.wh.op, .string (bstr Pr.wakeR.wh.text), .int .i64 Pr.wakeR.wh.num, .slice K Pr.wakeR.wh.kids.length kc, .slice D Pr.wakeR.acts.length dc].toList := by rw [← hX]
 have e2 : KX = #[.int .i64 5, .string (bstr []), .int .i64 11, .slice A2 0 cap2].toList := by
  have := congrArg Array.toList hKX;exact this
 subst e;subst e2;have h1 : w.cell? ⟨b, off + 0 * 6 + 1, none⟩ = some (.int .i64 2) := hr 1 _ rfl;have h4 : w.cell? ⟨b, off + 0 * 6 + 4, none⟩ = some (.slice K 2 kc) := hr 4 _ rfl;have h5 : w.cell? ⟨b, off + 0 * 6 + 5, none⟩ = some (.slice D 1 dc) := hr 5 _ rfl;have k2 : w.cell? ⟨kb, ko + 0 * 4 + 2, none⟩ = some (.int .i64 11) := hr2 2 _ rfl;have d0 : w.cell? ⟨db, do_ + 0, none⟩ = some (.string ⟨#[110, 111, 116, 105, 102, 121]⟩) := hc3;rw [Nat.zero_mul, Nat.add_zero] at h1 h4 h5 k2;rw [Nat.add_zero] at d0;exact ⟨D, K, b, off, kb, ko, db, do_, kc, dc, hA, hK, hD, h1, h4, h5, k2, d0⟩
theorem FH (m : Int) (w : World) (hm : w.cell? ⟨0, 0, none⟩ = some (.int .i64 m)) :
  Calls Tryz.prog 7 #[] w fun e w' => e = .returned (.bool true) ∧ Below w.heap.size w w' := by
 have HP1 : Hid (Calls Tryz.prog 8 #[.string (bstr Pr.wakeT)] w (PaA w ([Pr.wakeR], 0, 0))) := hid (by
  have := B8 (bstr Pr.wakeT) m w (by decide) hm;rw [show (bstr Pr.wakeT).data.toList = Pr.wakeT from rfl, Pr.wake_parse] at this
  exact this)
 have HP2 := hid (fun w hm => by
  have := B8 (bstr Pr.wake2T) m w (by decide) hm;rw [show (bstr Pr.wake2T).data.toList = Pr.wake2T from rfl, Pr.wake2_parse] at this
  exact this)
 obtain ⟨WN, hWN⟩ : ∃ WN, bstr (Pr.wakeN, (0 : Int)).1 = WN := ⟨_, rfl⟩;have hwn : (WN.toList == [114, 117, 108, 101, 32, 97, 32, 119, 104, 101, 110, 32, 107, 105, 110, 100, 32, 109, 101, 115, 115, 97, 103, 101, 32, 97, 110, 100, 32, 40, 109, 101, 110, 116, 105, 111, 110, 32, 111, 114, 32, 110, 111, 116, 32, 108, 101, 118, 101, 108, 32, 53, 48, 41, 32, 100, 111, 32, 110, 111, 116, 105, 102, 121, 10]) = true := by
  rw [← hWN, Lib.toList_data];rfl
 have HPR := hid (fun (ok : Nat → Prop) A cap w (hc : 1 ≤ cap) (h : RlRow w ok A [Pr.wakeR]) => by
  have := Fh ok [Pr.wakeR] A cap w (by decide) hc h (fun x hx => by
   rw [List.mem_singleton] at hx;subst hx
   exact DI) (by decide)
  rw [Pr.wake_print, hWN] at this
  exact this)
 have HCK := hid (fun (ok : Nat → Prop) A cap w (hc : 1 ≤ cap) (h : RlRow w ok A [Pr.wakeR]) => by
  have := B9 ok [Pr.wakeR] A cap w (by decide) hc h (fun x hx => by
   rw [List.mem_singleton] at hx;subst hx
   exact DI)
  rw [Pr.wake_check] at this
  exact this)
 have HUS := hid (fun w hm => by
  have := Du (bstr Pr.annT) m w (by decide) hm;rw [show (bstr Pr.annT).data.toList = Pr.annT from rfl, Pr.ann_usual] at this
  exact this)
 have HWN := hid hwn;clear hWN hwn;go_enter Tryz.func7, Tryz.ntmps7;go_wp2_with (go_at_call 8; refine HP1.out.mono ?_; rintro e w1 ⟨⟨A, cap, rfl, hcap, hrow⟩, hb1⟩);have hm1 := hb1.cell (An hm) |>.trans hm
 have HR1 := hid hrow;have HC1 := hid hcap;have HB1 := hid hb1;obtain ⟨D, K, b, off, kb, ko, db, do_, kc, dc, hwk⟩ := WkR.of hrow;have HW1 := hid hwk;obtain rfl := hwk.a;obtain rfl := hwk.k;obtain rfl := hwk.d;clear hrow hcap hb1 hwk hm;go_wp2_with (go_at_call 12; refine (HPR.out _ _ cap w1 HC1.out HR1.out).mono ?_; rintro e w2 ⟨rfl, hb2⟩);have hm2 := hb2.cell (An hm1) |>.trans hm1
 have HR2 := hid (HR1.out.bel hb2);have HW2 := hid (HW1.out.bel hb2);have HB2 := hid (HB1.out.trans (hb2.mono HB1.out.size));clear hb2 hm1
 go_upto_region 6 with (go_at_call 8; refine (HP2.out w2 hm2).mono ?_; rintro e w3 ⟨⟨A9, cap9, rfl, -, -⟩, hb3⟩; have hm3 := hb3.cell (An hm2) |>.trans hm2; have HR3 := hid (HR2.out.bel hb3); have HW3 := hid (HW2.out.bel hb3); have HB3 := hid (HB2.out.trans (hb3.mono HB2.out.size)); clear hb3 hm2)
 have h7 := Wk7.of w3;generalize hw7 : (((w3.alloc (.cells X1 36)).alloc (.cells X1 36)).alloc (.cells (X3 w3.heap.size) 36)).alloc (.cells (X4 w3.heap.size) 36) = w7 at *;have HR7 := hid (HR3.out.bel h7.be);have HB7 := hid (HB3.out.trans (h7.be.mono HB3.out.size));have HW7 := hid (HW3.out.bel h7.be);have hm7 := (h7.be.cell (An hm3)).trans hm3;generalize hn7 : w3.heap.size = n7 at *;have HG7 := hid h7.g;have HT7 := hid h7.t;have HCG := hid h7.cg;have HCT := hid h7.ct;clear h7 hm3 hw7 hn7;have q1 := HW7.out.c1;have q4 := HW7.out.c4;have q5 := HW7.out.c5;have qk := HW7.out.k2;have qd := HW7.out.d0;have t0 : w7.cell? ⟨n7 + 1 + 1 + 1, 0, none⟩ = some (.int .i64 4) := HT7.out.cell 0;have t1 : w7.cell? ⟨n7 + 1 + 1 + 1, 1, none⟩ = some (.string ⟨#[]⟩) := HT7.out.cell 1;have t2 : w7.cell? ⟨n7 + 1 + 1 + 1, 2, none⟩ = some (.int .i64 0) := HT7.out.cell 2;have t3 : w7.cell? ⟨n7 + 1 + 1 + 1, 3, none⟩ = some (.slice (some ⟨n7 + 1 + 1, 0, none⟩) 1 1) := HT7.out.cell 3;have HSZ : Hid ((Tryz.prog.info? 36).map (·.size) = some 4) := hid Aa;go_wp2_with fail;obtain ⟨w8, hw8⟩ : ∃ w8, w7.drew = w8 := ⟨_, rfl⟩;have HS8 : Hid (Below w7.heap.size w7 w8) := hid (by rw [← hw8]; exact (Below.refl _ _).drew);have HS0 : Hid (Below w7.heap.size w7 w7.drew) := hid (Below.refl _ _).drew;have HCG8 := hid (HCG.out.bel HS8.out);have HCT8 := hid (HCT.out.bel HS8.out);simp only [List.append_eq, List.cons_append, List.nil_append];refine wp_region_noPanic ?_;refine wp_region_held_drew (S := fun W => Below w7.heap.size w7 W) (by kernel_rfl) HS0.out (fun hHeld => ?_);rw [hw8] at hHeld ⊢;refine wpAnyH_take (i := 0) (oi := _) (v := ?_) rfl (by kernel_rfl) (by kernel_rfl) (by kernel_rfl) (fun _ _ _ h => h) (Or.inl ⟨by kernel_rfl, ?_⟩) hHeld ?_;rotate_left
 ·intro wq hSw;go_simp
  (try with_reducible rfl)
 (try simp only [Act.put, pk1, pk2, pk3, pk4, pk5, pk6])
 refine wpAnyH_take (i := 1) (oi := _) (v := ?_) rfl (by kernel_rfl) (by kernel_rfl) (by kernel_rfl) (fun _ _ _ h => h) (Or.inl ⟨by kernel_rfl, ?_⟩) hHeld ?_;rotate_left
 ·intro wq hSw;go_simp
  (try with_reducible rfl)
 (try simp only [Act.put, pk1, pk2, pk3, pk4, pk5, pk6])
 refine wpAnyH_take (i := 2) (oi := _) (v := ?_) rfl (by kernel_rfl) (by kernel_rfl) (by kernel_rfl) (fun _ _ _ h => h) (Or.inl ⟨by kernel_rfl, ?_⟩) hHeld ?_;rotate_left
 ·intro wq hSw;go_simp
  (try with_reducible rfl)
 (try simp only [Act.put, pk1, pk2, pk3, pk4, pk5, pk6])
 refine wpAnyH_take (i := 3) (oi := _) (v := ?_) rfl (by kernel_rfl) (by kernel_rfl) (by kernel_rfl) (fun _ _ _ h => h) (Or.inl ⟨by kernel_rfl, ?_⟩) hHeld ?_;rotate_left
 ·intro wq hSw;go_simp
  (try with_reducible rfl)
 (try simp only [Act.put, pk1, pk2, pk3, pk4, pk5, pk6])
 refine wpAnyH_take (i := 4) (oi := _) (v := ?_) rfl (by kernel_rfl) (by kernel_rfl) (by kernel_rfl) (fun _ _ _ h => h) (Or.inl ⟨by kernel_rfl, ?_⟩) hHeld ?_;rotate_left
 ·intro wq hSw;go_simp
  (try with_reducible rfl)
 (try simp only [Act.put, pk1, pk2, pk3, pk4, pk5, pk6])
 refine wpAnyH_take (i := 5) (oi := _) (v := ?_) rfl (by kernel_rfl) (by kernel_rfl) (by kernel_rfl) (fun _ _ _ h => h) (Or.inl ⟨by kernel_rfl, ?_⟩) hHeld ?_;rotate_left
 ·intro wq hSw;go_simp
  (try with_reducible rfl)
 (try simp only [Act.put, pk1, pk2, pk3, pk4, pk5, pk6])
 refine wpAnyH_take (i := 6) (oi := _) (v := ?_) rfl (by kernel_rfl) (by kernel_rfl) (by kernel_rfl) (fun _ _ _ h => h) (Or.inl ⟨by kernel_rfl, ?_⟩) hHeld ?_;rotate_left
 ·intro wq hSw;go_simp
  (try with_reducible rfl)
 (try simp only [Act.put, pk1, pk2, pk3, pk4, pk5, pk6])
 refine wpAnyH_take (i := 7) (oi := _) (v := ?_) rfl (by kernel_rfl) (by kernel_rfl) (by kernel_rfl) (fun _ _ _ h => h) (Or.inl ⟨by kernel_rfl, ?_⟩) hHeld ?_;rotate_left
 ·intro wq hSw;go_simp
  (try with_reducible rfl)
 (try simp only [Act.put, pk1, pk2, pk3, pk4, pk5, pk6])
 refine wpAnyH_take (i := 8) (oi := _) (v := ?_) rfl (by kernel_rfl) (by kernel_rfl) (by kernel_rfl) (fun _ _ _ h => h) (Or.inl ⟨by kernel_rfl, ?_⟩) hHeld ?_;rotate_left
 ·intro wq hSw;go_simp;rw [HWN.out]
 (try simp only [Act.put, pk1, pk2, pk3, pk4, pk5, pk6])
 refine wpAnyH_take (i := 9) (oi := _) (v := ?_) rfl (by kernel_rfl) (by kernel_rfl) (by kernel_rfl) (fun _ _ _ h => h) (Or.inl ⟨by kernel_rfl, ?_⟩) hHeld ?_;rotate_left
 ·intro wq hSw;go_simp
  (try with_reducible rfl)
 (try simp only [Act.put, pk1, pk2, pk3, pk4, pk5, pk6])
 refine wpAnyH_take (i := 10) (oi := _) (v := ?_) rfl (by kernel_rfl) (by kernel_rfl) (by kernel_rfl) (fun _ _ _ h => h) (Or.inl ⟨by kernel_rfl, ?_⟩) hHeld ?_;rotate_left
 ·intro wq hSw;go_simp
  (try with_reducible rfl)
 (try simp only [Act.put, pk1, pk2, pk3, pk4, pk5, pk6])
 refine wpAnyH_take (i := 11) (oi := _) (v := ?_) rfl (by kernel_rfl) (by kernel_rfl) (by kernel_rfl) (fun _ _ _ h => h) (Or.inl ⟨by kernel_rfl, ?_⟩) hHeld ?_;rotate_left
 ·intro wq hSw;go_simp
  (try with_reducible rfl)
 (try simp only [Act.put, pk1, pk2, pk3, pk4, pk5, pk6])
 refine wpAnyH_take (i := 12) (oi := _) (v := ?_) rfl (by kernel_rfl) (by kernel_rfl) (by kernel_rfl) (fun _ _ _ h => h) (Or.inl ⟨by kernel_rfl, ?_⟩) hHeld ?_;rotate_left
 ·intro wq hSw;go_simp
  (try with_reducible rfl)
 (try simp only [Act.put, pk1, pk2, pk3, pk4, pk5, pk6])
 refine wpAnyH_take (i := 13) (oi := _) (v := ?_) rfl (by kernel_rfl) (by kernel_rfl) (by kernel_rfl) (fun _ _ _ h => h) (Or.inl ⟨by kernel_rfl, ?_⟩) hHeld ?_;rotate_left
 ·intro wq hSw;go_simp
  (try with_reducible rfl)
 (try simp only [Act.put, pk1, pk2, pk3, pk4, pk5, pk6])
 refine wpAnyH_take (i := 14) (oi := _) (v := ?_) rfl (by kernel_rfl) (by kernel_rfl) (by kernel_rfl) (fun _ _ _ h => h) (Or.inl ⟨by kernel_rfl, ?_⟩) hHeld ?_;rotate_left
 ·intro wq hSw;go_simp
  (try with_reducible rfl)
 (try simp only [Act.put, pk1, pk2, pk3, pk4, pk5, pk6])
 refine wpAnyH_take (i := 15) (oi := _) (v := ?_) rfl (by kernel_rfl) (by kernel_rfl) (by kernel_rfl) (fun _ _ _ h => h) (Or.inl ⟨by kernel_rfl, ?_⟩) hHeld ?_;rotate_left
 ·intro wq hSw;go_simp
  (try with_reducible rfl)
 (try simp only [Act.put, pk1, pk2, pk3, pk4, pk5, pk6])
 refine wpAnyH_take (i := 16) (oi := _) (v := ?_) rfl (by kernel_rfl) (by kernel_rfl) (by kernel_rfl) (fun _ _ _ h => h) (Or.inl ⟨by kernel_rfl, ?_⟩) hHeld ?_;rotate_left
 ·intro wq hSw;go_simp
  (try with_reducible rfl)
 (try simp only [Act.put, pk1, pk2, pk3, pk4, pk5, pk6])
 refine wpAnyH_take (i := 17) (oi := _) (v := ?_) rfl (by kernel_rfl) (by kernel_rfl) (by kernel_rfl) (fun _ _ _ h => h) (Or.inl ⟨by kernel_rfl, ?_⟩) hHeld ?_;rotate_left
 ·intro wq hSw;go_simp
  (try with_reducible rfl)
 (try simp only [Act.put, pk1, pk2, pk3, pk4, pk5, pk6])
 refine wpAnyH_take (i := 18) (oi := _) (v := ?_) rfl (by kernel_rfl) (by kernel_rfl) (by kernel_rfl) (fun _ _ _ h => h) (Or.inl ⟨by kernel_rfl, ?_⟩) hHeld ?_;rotate_left
 ·intro wq hSw;go_simp
  (try with_reducible rfl)
 (try simp only [Act.put, pk1, pk2, pk3, pk4, pk5, pk6])
 refine wpAnyH_take (i := 19) (oi := _) (v := ?_) rfl (by kernel_rfl) (by kernel_rfl) (by kernel_rfl) (fun _ _ _ h => h) (Or.inl ⟨by kernel_rfl, ?_⟩) hHeld ?_;rotate_left
 ·intro wq hSw;go_simp
  (try with_reducible rfl)
 (try simp only [Act.put, pk1, pk2, pk3, pk4, pk5, pk6])
 refine wpAnyH_take (i := 20) (oi := _) (v := ?_) rfl (by kernel_rfl) (by kernel_rfl) (by kernel_rfl) (fun _ _ _ h => h) (Or.inl ⟨by kernel_rfl, ?_⟩) hHeld ?_;rotate_left
 ·intro wq hSw;go_simp
  (try with_reducible rfl)
 (try simp only [Act.put, pk1, pk2, pk3, pk4, pk5, pk6])
 refine wpAnyH_take (i := 21) (oi := _) (v := ?_) rfl (by kernel_rfl) (by kernel_rfl) (by kernel_rfl) (fun _ _ _ h => h) (Or.inl ⟨by kernel_rfl, ?_⟩) hHeld ?_;rotate_left
 ·intro wq hSw;go_simp
  (try with_reducible rfl)
 (try simp only [Act.put, pk1, pk2, pk3, pk4, pk5, pk6])
 refine wpAnyH_take (i := 22) (oi := _) (v := ?_) rfl (by kernel_rfl) (by kernel_rfl) (by kernel_rfl) (fun _ _ _ h => h) (Or.inl ⟨by kernel_rfl, ?_⟩) hHeld ?_;rotate_left
 ·intro wq hSw;go_simp
  (try with_reducible rfl)
 (try simp only [Act.put, pk1, pk2, pk3, pk4, pk5, pk6])
 refine wpAnyH_take (i := 23) (oi := _) (v := ?_) rfl (by kernel_rfl) (by kernel_rfl) (by kernel_rfl) (fun _ _ _ h => h) (Or.inl ⟨by kernel_rfl, ?_⟩) hHeld ?_;rotate_left
 ·intro wq hSw;go_simp
  (try with_reducible rfl)
 (try simp only [Act.put, pk1, pk2, pk3, pk4, pk5, pk6])
 refine wpAnyH_take (i := 24) (oi := _) (v := ?_) rfl (by kernel_rfl) (by kernel_rfl) (by kernel_rfl) (fun _ _ _ h => h) (Or.inl ⟨by kernel_rfl, ?_⟩) hHeld ?_;rotate_left
 ·intro wq hSw;go_simp
  (try with_reducible rfl)
 (try simp only [Act.put, pk1, pk2, pk3, pk4, pk5, pk6])
 refine wpAnyH_take (i := 25) (oi := _) (v := ?_) rfl (by kernel_rfl) (by kernel_rfl) (by kernel_rfl) (fun _ _ _ h => h) (Or.inl ⟨by kernel_rfl, ?_⟩) hHeld ?_;rotate_left
 ·intro wq hSw;go_simp
  (try with_reducible rfl)
 (try simp only [Act.put, pk1, pk2, pk3, pk4, pk5, pk6])
 refine wpAnyH_take (i := 26) (oi := _) (v := ?_) rfl (by kernel_rfl) (by kernel_rfl) (by kernel_rfl) (fun _ _ _ h => h) (Or.inl ⟨by kernel_rfl, ?_⟩) hHeld ?_;rotate_left
 ·intro wq hSw;go_simp
  (try with_reducible rfl)
 (try simp only [Act.put, pk1, pk2, pk3, pk4, pk5, pk6])
 refine wpAnyH_take (i := 27) (oi := _) (v := ?_) rfl (by kernel_rfl) (by kernel_rfl) (by kernel_rfl) (fun _ _ _ h => h) (Or.inl ⟨by kernel_rfl, ?_⟩) hHeld ?_;rotate_left
 ·intro wq hSw;go_simp
  (try with_reducible rfl)
 (try simp only [Act.put, pk1, pk2, pk3, pk4, pk5, pk6])
 refine wpAnyH_take (i := 28) (oi := _) (v := ?_) rfl (by kernel_rfl) (by kernel_rfl) (by kernel_rfl) (fun _ _ _ h => h) (Or.inl ⟨by kernel_rfl, ?_⟩) hHeld ?_;rotate_left
 ·intro wq hSw;go_simp
  (try with_reducible rfl)
 (try simp only [Act.put, pk1, pk2, pk3, pk4, pk5, pk6])
 refine wpAnyH_take (i := 29) (oi := _) (v := ?_) rfl (by kernel_rfl) (by kernel_rfl) (by kernel_rfl) (fun _ _ _ h => h) (Or.inl ⟨by kernel_rfl, ?_⟩) hHeld ?_;rotate_left
 ·intro wq hSw;go_simp
  (try with_reducible rfl)
 (try simp only [Act.put, pk1, pk2, pk3, pk4, pk5, pk6])
 refine wpAnyH_take (i := 30) (oi := _) (v := ?_) rfl (by kernel_rfl) (by kernel_rfl) (by kernel_rfl) (fun _ _ _ h => h) (Or.inl ⟨by kernel_rfl, ?_⟩) hHeld ?_;rotate_left
 ·intro wq hSw;go_simp
  (try with_reducible rfl)
 (try simp only [Act.put, pk1, pk2, pk3, pk4, pk5, pk6])
 refine wpAnyH_take (i := 31) (oi := _) (v := ?_) rfl (by kernel_rfl) (by kernel_rfl) (by kernel_rfl) (fun _ _ _ h => h) (Or.inl ⟨by kernel_rfl, ?_⟩) hHeld ?_;rotate_left
 ·intro wq hSw;go_simp
  (try with_reducible rfl)
 (try simp only [Act.put, pk1, pk2, pk3, pk4, pk5, pk6])
 refine wpAnyH_take (i := 32) (oi := _) (v := ?_) rfl (by kernel_rfl) (by kernel_rfl) (by kernel_rfl) (fun _ _ _ h => h) (Or.inl ⟨by kernel_rfl, ?_⟩) hHeld ?_;rotate_left
 ·intro wq hSw;have q1x := (Below.cell hSw (An q1)).trans q1;go_simp
  (try with_reducible rfl)
 (try simp only [Act.put, pk1, pk2, pk3, pk4, pk5, pk6])
 refine wpAnyH_take (i := 33) (oi := _) (v := ?_) rfl (by kernel_rfl) (by kernel_rfl) (by kernel_rfl) (fun _ _ _ h => h) (Or.inl ⟨by kernel_rfl, ?_⟩) hHeld ?_;rotate_left
 ·intro wq hSw;go_simp
  (try with_reducible rfl)
 (try simp only [Act.put, pk1, pk2, pk3, pk4, pk5, pk6])
 refine wpAnyH_take (i := 34) (oi := _) (v := ?_) rfl (by kernel_rfl) (by kernel_rfl) (by kernel_rfl) (fun _ _ _ h => h) (Or.inl ⟨by kernel_rfl, ?_⟩) hHeld ?_;rotate_left
 ·intro wq hSw;go_simp
  (try with_reducible rfl)
 (try simp only [Act.put, pk1, pk2, pk3, pk4, pk5, pk6])
 refine wpAnyH_take (i := 35) (oi := _) (v := ?_) rfl (by kernel_rfl) (by kernel_rfl) (by kernel_rfl) (fun _ _ _ h => h) (Or.inl ⟨by kernel_rfl, ?_⟩) hHeld ?_;rotate_left
 ·intro wq hSw;go_simp
  (try with_reducible rfl)
 (try simp only [Act.put, pk1, pk2, pk3, pk4, pk5, pk6])
 refine wpAnyH_take (i := 36) (oi := _) (v := ?_) rfl (by kernel_rfl) (by kernel_rfl) (by kernel_rfl) (fun _ _ _ h => h) (Or.inl ⟨by kernel_rfl, ?_⟩) hHeld ?_;rotate_left
 ·intro wq hSw;go_simp
  (try with_reducible rfl)
 (try simp only [Act.put, pk1, pk2, pk3, pk4, pk5, pk6])
 refine wpAnyH_take (i := 37) (oi := _) (v := ?_) rfl (by kernel_rfl) (by kernel_rfl) (by kernel_rfl) (fun _ _ _ h => h) (Or.inl ⟨by kernel_rfl, ?_⟩) hHeld ?_;rotate_left
 ·intro wq hSw;go_simp
  (try with_reducible rfl)
 (try simp only [Act.put, pk1, pk2, pk3, pk4, pk5, pk6])
 refine wpAnyH_take (i := 38) (oi := _) (v := ?_) rfl (by kernel_rfl) (by kernel_rfl) (by kernel_rfl) (fun _ _ _ h => h) (Or.inl ⟨by kernel_rfl, ?_⟩) hHeld ?_;rotate_left
 ·intro wq hSw;go_simp
  (try with_reducible rfl)
 (try simp only [Act.put, pk1, pk2, pk3, pk4, pk5, pk6])
 refine wpAnyH_take (i := 39) (oi := _) (v := ?_) rfl (by kernel_rfl) (by kernel_rfl) (by kernel_rfl) (fun _ _ _ h => h) (Or.inl ⟨by kernel_rfl, ?_⟩) hHeld ?_;rotate_left
 ·intro wq hSw;go_simp
  (try with_reducible rfl)
 (try simp only [Act.put, pk1, pk2, pk3, pk4, pk5, pk6])
 refine wpAnyH_take (i := 40) (oi := _) (v := ?_) rfl (by kernel_rfl) (by kernel_rfl) (by kernel_rfl) (fun _ _ _ h => h) (Or.inl ⟨by kernel_rfl, ?_⟩) hHeld ?_;rotate_left
 ·intro wq hSw;have q4x := (Below.cell hSw (An q4)).trans q4;go_simp
  (try with_reducible rfl)
 (try simp only [Act.put, pk1, pk2, pk3, pk4, pk5, pk6])
 refine wpAnyH_take (i := 41) (oi := _) (v := ?_) rfl (by kernel_rfl) (by kernel_rfl) (by kernel_rfl) (fun _ _ _ h => h) (Or.inl ⟨by kernel_rfl, ?_⟩) hHeld ?_;rotate_left
 ·intro wq hSw;go_simp
  (try with_reducible rfl)
 (try simp only [Act.put, pk1, pk2, pk3, pk4, pk5, pk6])
 refine wpAnyH_take (i := 42) (oi := _) (v := ?_) rfl (by kernel_rfl) (by kernel_rfl) (by kernel_rfl) (fun _ _ _ h => h) (Or.inl ⟨by kernel_rfl, ?_⟩) hHeld ?_;rotate_left
 ·intro wq hSw;go_simp
  (try with_reducible rfl)
 (try simp only [Act.put, pk1, pk2, pk3, pk4, pk5, pk6])
 refine wpAnyH_take (i := 43) (oi := _) (v := ?_) rfl (by kernel_rfl) (by kernel_rfl) (by kernel_rfl) (fun _ _ _ h => h) (Or.inl ⟨by kernel_rfl, ?_⟩) hHeld ?_;rotate_left
 ·intro wq hSw;have qkx := (Below.cell hSw (An qk)).trans qk;go_simp
  (try with_reducible rfl)
 (try simp only [Act.put, pk1, pk2, pk3, pk4, pk5, pk6])
 refine wpAnyH_take (i := 44) (oi := _) (v := ?_) rfl (by kernel_rfl) (by kernel_rfl) (by kernel_rfl) (fun _ _ _ h => h) (Or.inl ⟨by kernel_rfl, ?_⟩) hHeld ?_;rotate_left
 ·intro wq hSw;go_simp
  (try with_reducible rfl)
 (try simp only [Act.put, pk1, pk2, pk3, pk4, pk5, pk6])
 refine wpAnyH_take (i := 45) (oi := _) (v := ?_) rfl (by kernel_rfl) (by kernel_rfl) (by kernel_rfl) (fun _ _ _ h => h) (Or.inl ⟨by kernel_rfl, ?_⟩) hHeld ?_;rotate_left
 ·intro wq hSw;go_simp
  (try with_reducible rfl)
 (try simp only [Act.put, pk1, pk2, pk3, pk4, pk5, pk6])
 refine wpAnyH_take (i := 46) (oi := _) (v := ?_) rfl (by kernel_rfl) (by kernel_rfl) (by kernel_rfl) (fun _ _ _ h => h) (Or.inl ⟨by kernel_rfl, ?_⟩) hHeld ?_;rotate_left
 ·intro wq hSw;go_simp
  (try with_reducible rfl)
 (try simp only [Act.put, pk1, pk2, pk3, pk4, pk5, pk6])
 refine wpAnyH_take (i := 47) (oi := _) (v := ?_) rfl (by kernel_rfl) (by kernel_rfl) (by kernel_rfl) (fun _ _ _ h => h) (Or.inl ⟨by kernel_rfl, ?_⟩) hHeld ?_;rotate_left
 ·intro wq hSw;go_simp
  (try with_reducible rfl)
 (try simp only [Act.put, pk1, pk2, pk3, pk4, pk5, pk6])
 refine wpAnyH_take (i := 48) (oi := _) (v := ?_) rfl (by kernel_rfl) (by kernel_rfl) (by kernel_rfl) (fun _ _ _ h => h) (Or.inl ⟨by kernel_rfl, ?_⟩) hHeld ?_;rotate_left
 ·intro wq hSw;go_simp
  (try with_reducible rfl)
 (try simp only [Act.put, pk1, pk2, pk3, pk4, pk5, pk6])
 refine wpAnyH_take (i := 49) (oi := _) (v := ?_) rfl (by kernel_rfl) (by kernel_rfl) (by kernel_rfl) (fun _ _ _ h => h) (Or.inl ⟨by kernel_rfl, ?_⟩) hHeld ?_;rotate_left
 ·intro wq hSw;go_simp
  (try with_reducible rfl)
 (try simp only [Act.put, pk1, pk2, pk3, pk4, pk5, pk6])
 refine wpAnyH_take (i := 50) (oi := _) (v := ?_) rfl (by kernel_rfl) (by kernel_rfl) (by kernel_rfl) (fun _ _ _ h => h) (Or.inl ⟨by kernel_rfl, ?_⟩) hHeld ?_;rotate_left
 ·intro wq hSw;have q5x := (Below.cell hSw (An q5)).trans q5;go_simp
  (try with_reducible rfl)
 (try simp only [Act.put, pk1, pk2, pk3, pk4, pk5, pk6])
 refine wpAnyH_take (i := 51) (oi := _) (v := ?_) rfl (by kernel_rfl) (by kernel_rfl) (by kernel_rfl) (fun _ _ _ h => h) (Or.inl ⟨by kernel_rfl, ?_⟩) hHeld ?_;rotate_left
 ·intro wq hSw;go_simp
  (try with_reducible rfl)
 (try simp only [Act.put, pk1, pk2, pk3, pk4, pk5, pk6])
 refine wpAnyH_take (i := 52) (oi := _) (v := ?_) rfl (by kernel_rfl) (by kernel_rfl) (by kernel_rfl) (fun _ _ _ h => h) (Or.inl ⟨by kernel_rfl, ?_⟩) hHeld ?_;rotate_left
 ·intro wq hSw;have qdx := (Below.cell hSw (An qd)).trans qd;go_simp
  (try with_reducible rfl)
 (try simp only [Act.put, pk1, pk2, pk3, pk4, pk5, pk6])
 refine wpAnyH_take (i := 53) (oi := _) (v := ?_) rfl (by kernel_rfl) (by kernel_rfl) (by kernel_rfl) (fun _ _ _ h => h) (Or.inl ⟨by kernel_rfl, ?_⟩) hHeld ?_;rotate_left
 ·intro wq hSw;go_simp
  (try with_reducible rfl)
 (try simp only [Act.put, pk1, pk2, pk3, pk4, pk5, pk6])
 refine wpAnyH_take (i := 54) (oi := _) (v := ?_) rfl (by kernel_rfl) (by kernel_rfl) (by kernel_rfl) (fun _ _ _ h => h) (Or.inl ⟨by kernel_rfl, ?_⟩) hHeld ?_;rotate_left
 ·intro wq hSw;go_simp
  (try with_reducible rfl)
 (try simp only [Act.put, pk1, pk2, pk3, pk4, pk5, pk6])
 refine wpAnyH_take (i := 55) (oi := _) (v := ?_) rfl (by kernel_rfl) (by kernel_rfl) (by kernel_rfl) (fun _ _ _ h => h) (Or.inl ⟨by kernel_rfl, ?_⟩) hHeld ?_;rotate_left
 ·intro wq hSw;go_simp
  (try with_reducible rfl)
 (try simp only [Act.put, pk1, pk2, pk3, pk4, pk5, pk6])
 refine wpAnyH_take (i := 56) (oi := _) (v := _) rfl (by kernel_rfl) (by kernel_rfl) (by kernel_rfl) (fun _ _ _ h => h) (Ao (X := X4 n7) rfl Tryz.underlying36 HSZ.out (fun W h => HT7.out.below h HT7.out.lt) (by kernel_rfl) (.tmp 10) (by kernel_rfl) (by kernel_rfl)) hHeld ?_
 (try simp only [Act.put, pk1, pk2, pk3, pk4, pk5, pk6])
 refine wpAnyH_take (i := 58) (oi := _) (v := _) rfl (by kernel_rfl) (by kernel_rfl) (by kernel_rfl) (fun _ _ _ h => h) (Ao (X := X1) rfl Tryz.underlying36 HSZ.out (fun W h => HG7.out.below h HG7.out.lt) (by kernel_rfl) (.tmp 9) (by kernel_rfl) (by kernel_rfl)) hHeld ?_
 (try simp only [Act.put, pk1, pk2, pk3, pk4, pk5, pk6])
 refine wpAnyH_ready (rs := [57]) (by kernel_rfl) (by simp) ?_;refine AllReadyH.cons (o := _) rfl (fun K hK => ?_) AllReadyH.nil;go_simp
 go_at_call 15
 refine (AW 1000 (by decide) (fun _ => True) Pr.twiceC (X4 n7) w8 (by decide) HCT8.out).mono ?_;rintro e w9 ⟨⟨SX, rfl, hsx⟩, hb9⟩;rw [Pr.twice_simple] at hsx;have HSX := hid hsx;have HCG9 := hid (HCG8.out.bel hb9);have HCT9 := hid (HCT8.out.bel hb9);have HS9 : Hid (Below w7.heap.size w7 w9) := hid (HS8.out.trans (hb9.mono HS8.out.size));clear hb9 hsx;refine hK.out _ _ HS9.out (fun hHeld2 => ?_);clear hK K hHeld;have hHeld := hHeld2;clear hHeld2
 (try simp only [Act.put, pk1, pk2, pk3, pk4, pk5, pk6])
 refine wpAnyH_ready (rs := [59]) (by kernel_rfl) (by simp) ?_;refine AllReadyH.cons (o := _) rfl (fun K hK => ?_) AllReadyH.nil;go_simp
 go_at_call 20
 refine (Be 1000 _ (fun _ => True) Pr.goneC Pr.goneC SX X1 w9 (by decide) (by decide) HSX.out HCG9.out).mono ?_;rw [Pr.twice_same];rintro e w10 ⟨rfl, hb10⟩;have HCT10 := hid (HCT9.out.bel hb10);have HS10 : Hid (Below w7.heap.size w7 w10) := hid (HS9.out.trans (hb10.mono HS9.out.size));clear hb10;refine hK.out _ _ HS10.out (fun hHeld2 => ?_);clear hK K hHeld;have hHeld := hHeld2;clear hHeld2
 (try simp only [Act.put, pk1, pk2, pk3, pk4, pk5, pk6])
 refine wpAnyH_take (i := 60) (oi := _) (v := ?_) rfl (by kernel_rfl) (by kernel_rfl) (by kernel_rfl) (fun _ _ _ h => h) (Or.inl ⟨by kernel_rfl, ?_⟩) hHeld ?_;rotate_left
 ·intro wq hSw;go_simp
  (try with_reducible rfl)
 (try simp only [Act.put, pk1, pk2, pk3, pk4, pk5, pk6])
 refine wpAnyH_take (i := 61) (oi := _) (v := ?_) rfl (by kernel_rfl) (by kernel_rfl) (by kernel_rfl) (fun _ _ _ h => h) (Or.inl ⟨by kernel_rfl, ?_⟩) hHeld ?_;rotate_left
 ·intro wq hSw;go_simp
  (try with_reducible rfl)
 (try simp only [Act.put, pk1, pk2, pk3, pk4, pk5, pk6])
 refine wpAnyH_take (i := 62) (oi := _) (v := _) rfl (by kernel_rfl) (by kernel_rfl) (by kernel_rfl) (fun _ _ _ h => h) (Ao (X := X4 n7) rfl Tryz.underlying36 HSZ.out (fun W h => HT7.out.below h HT7.out.lt) (by kernel_rfl) (.tmp 10) (by kernel_rfl) (by kernel_rfl)) hHeld ?_
 (try simp only [Act.put, pk1, pk2, pk3, pk4, pk5, pk6])
 refine wpAnyH_ready (rs := [63]) (by kernel_rfl) (by simp) ?_;refine AllReadyH.cons (o := _) rfl (fun K hK => ?_) AllReadyH.nil;go_simp
 go_at_call 18
 refine (BF 1000 (fun _ => True) Pr.twiceC (X4 n7) w10 (by decide) (by decide) HCT10.out).mono ?_;rw [show Pr.nodes Pr.twiceC = 3 from rfl];rintro e w11 ⟨rfl, hb11⟩;have HS11 : Hid (Below w7.heap.size w7 w11) := hid (HS10.out.trans (hb11.mono HS10.out.size));clear hb11;refine hK.out _ _ HS11.out (fun hHeld2 => ?_);clear hK K hHeld;have hHeld := hHeld2;clear hHeld2
 (try simp only [Act.put, pk1, pk2, pk3, pk4, pk5, pk6])
 refine wpAnyH_take (i := 64) (oi := _) (v := ?_) rfl (by kernel_rfl) (by kernel_rfl) (by kernel_rfl) (fun _ _ _ h => h) (Or.inl ⟨by kernel_rfl, ?_⟩) hHeld ?_;rotate_left
 ·intro wq hSw;go_simp
  (try with_reducible rfl)
 (try simp only [Act.put, pk1, pk2, pk3, pk4, pk5, pk6])
 refine wpAnyH_take (i := 65) (oi := _) (v := ?_) rfl (by kernel_rfl) (by kernel_rfl) (by kernel_rfl) (fun _ _ _ h => h) (Or.inl ⟨by kernel_rfl, ?_⟩) hHeld ?_;rotate_left
 ·intro wq hSw;go_simp
  (try with_reducible rfl)
 (try simp only [Act.put, pk1, pk2, pk3, pk4, pk5, pk6])
 refine wpAnyH_take (i := 66) (oi := _) (v := ?_) rfl (by kernel_rfl) (by kernel_rfl) (by kernel_rfl) (fun _ _ _ h => h) (Or.inl ⟨by kernel_rfl, ?_⟩) hHeld ?_;rotate_left
 ·intro wq hSw;go_simp
  (try with_reducible rfl)
 (try simp only [Act.put, pk1, pk2, pk3, pk4, pk5, pk6])
 refine wpAnyH_ready (rs := [67]) (by kernel_rfl) (by simp) ?_;refine AllReadyH.cons (o := _) rfl (fun K hK => ?_) AllReadyH.nil;go_simp;have hm11 := (HS11.out.cell (An hm7)).trans hm7
 go_at_call 21
 refine (HUS.out w11 hm11).mono ?_;rintro e w12 ⟨⟨UA, ucap, rfl, -, -⟩, hb12⟩;have HS12 : Hid (Below w7.heap.size w7 w12) := hid (HS11.out.trans (hb12.mono HS11.out.size));clear hb12 hm11;refine hK.out _ _ HS12.out (fun hHeld2 => ?_);clear hK K hHeld;have hHeld := hHeld2;clear hHeld2
 (try simp only [Act.put, pk1, pk2, pk3, pk4, pk5, pk6])
 refine wpAnyH_take (i := 68) (oi := _) (v := ?_) rfl (by kernel_rfl) (by kernel_rfl) (by kernel_rfl) (fun _ _ _ h => h) (Or.inl ⟨by kernel_rfl, ?_⟩) hHeld ?_;rotate_left
 ·intro wq hSw;go_simp
  (try with_reducible rfl)
 (try simp only [Act.put, pk1, pk2, pk3, pk4, pk5, pk6])
 refine wpAnyH_take (i := 69) (oi := _) (v := ?_) rfl (by kernel_rfl) (by kernel_rfl) (by kernel_rfl) (fun _ _ _ h => h) (Or.inl ⟨by kernel_rfl, ?_⟩) hHeld ?_;rotate_left
 ·intro wq hSw;go_simp
  (try with_reducible rfl)
 (try simp only [Act.put, pk1, pk2, pk3, pk4, pk5, pk6])
 refine wpAnyH_take (i := 70) (oi := _) (v := ?_) rfl (by kernel_rfl) (by kernel_rfl) (by kernel_rfl) (fun _ _ _ h => h) (Or.inl ⟨by kernel_rfl, ?_⟩) hHeld ?_;rotate_left
 ·intro wq hSw;go_simp
  (try with_reducible rfl)
 (try simp only [Act.put, pk1, pk2, pk3, pk4, pk5, pk6])
 refine wpAnyH_take (i := 71) (oi := _) (v := ?_) rfl (by kernel_rfl) (by kernel_rfl) (by kernel_rfl) (fun _ _ _ h => h) (Or.inl ⟨by kernel_rfl, ?_⟩) hHeld ?_;rotate_left
 ·intro wq hSw;go_simp
  (try with_reducible rfl)
 (try simp only [Act.put, pk1, pk2, pk3, pk4, pk5, pk6])
 refine wpAnyH_take (i := 72) (oi := _) (v := ?_) rfl (by kernel_rfl) (by kernel_rfl) (by kernel_rfl) (fun _ _ _ h => h) (Or.inl ⟨by kernel_rfl, ?_⟩) hHeld ?_;rotate_left
 ·intro wq hSw;go_simp
  (try with_reducible rfl)
 (try simp only [Act.put, pk1, pk2, pk3, pk4, pk5, pk6])
 refine wpAnyH_ready (rs := [73]) (by kernel_rfl) (by simp) ?_;refine AllReadyH.cons (o := _) rfl (fun K hK => ?_) AllReadyH.nil;go_simp;have HR12 := hid (HR7.out.bel HS12.out)
 go_at_call 23
 refine (HCK.out _ _ cap w12 HC1.out HR12.out).mono ?_;rintro e w13 ⟨rfl, hb13⟩;have HS13 : Hid (Below w7.heap.size w7 w13) := hid (HS12.out.trans (hb13.mono HS12.out.size));clear hb13;refine hK.out _ _ HS13.out (fun hHeld2 => ?_);clear hK K hHeld;have hHeld := hHeld2;clear hHeld2
 (try simp only [Act.put, pk1, pk2, pk3, pk4, pk5, pk6])
 refine wpAnyH_take (i := 74) (oi := _) (v := ?_) rfl (by kernel_rfl) (by kernel_rfl) (by kernel_rfl) (fun _ _ _ h => h) (Or.inl ⟨by kernel_rfl, ?_⟩) hHeld ?_;rotate_left
 ·intro wq hSw;go_simp
  (try with_reducible rfl)
 (try simp only [Act.put, pk1, pk2, pk3, pk4, pk5, pk6])
 refine wpAnyH_take (i := 75) (oi := _) (v := ?_) rfl (by kernel_rfl) (by kernel_rfl) (by kernel_rfl) (fun _ _ _ h => h) (Or.inl ⟨by kernel_rfl, ?_⟩) hHeld ?_;rotate_left
 ·intro wq hSw;go_simp
  (try with_reducible rfl)
 (try simp only [Act.put, pk1, pk2, pk3, pk4, pk5, pk6])
 refine wpAnyH_take (i := 76) (oi := _) (v := ?_) rfl (by kernel_rfl) (by kernel_rfl) (by kernel_rfl) (fun _ _ _ h => h) (Or.inl ⟨by kernel_rfl, ?_⟩) hHeld ?_;rotate_left
 ·intro wq hSw;go_simp
  (try with_reducible rfl)
 (try simp only [Act.put, pk1, pk2, pk3, pk4, pk5, pk6])
 refine wpAnyH_done (by kernel_rfl) ?_ _;refine NoPanic.normal ?_;go_wp2_with fail;go_ret;exact ⟨by kernel_rfl, HB7.out.trans (HS13.out.mono HB7.out.size)⟩
end Go.Proofs.YtchkiegehejfmaaGreatDoor
namespace Pr
theorem RlS.up {x : Rl} {n m : Nat} (h : RlS x n) (hm : n ≤ m) : RlS x m := ⟨h.name, h.small, Nat.le_trans h.nodes hm, h.acts, Nat.le_trans h.few hm⟩
theorem BK {n : Nat} (hn : n ≤ 1000000) : ∀ (ls : List Str) (i : Nat) (acc : List Rl), (∀ t ∈ ls, t.length ≤ n) → (∀ x ∈ acc, RlS x n) → (∀ x ∈ (parseL i acc ls).1, RlS x n) ∧ (parseL i acc ls).1.length ≤ acc.length + ls.length
 | [], i, acc, _, ha => ⟨by rw [parseL]; exact ha, by rw [parseL]; exact Nat.le_add_right _ _⟩
 | t :: r, i, acc, hl, ha => by
  have hr : ∀ t ∈ r, t.length ≤ n := fun t ht => hl t (List.mem_cons_of_mem _ ht)
  have ht := hl t (List.mem_cons_self ..)
  cases hc : commentP t with
  | true =>
   rw [parseL_skip hc, List.length_cons];have h := BK hn r (i + 1) acc hr ha;exact ⟨h.1, by have := h.2; omega⟩
  | false =>
   cases hp : lineP t with
   | none =>
    rw [parseL_bad hc hp];exact ⟨fun x hx => by simp at hx, by simp⟩
   | some x =>
    rw [parseL_next hc hp, List.length_cons]
    have h := BK hn r (i + 1) (acc ++ [x]) hr (fun y hy => by
     rcases List.mem_append.1 hy with hy | hy
     ·exact ha y hy
     ·rw [List.mem_singleton.1 hy]; exact (lineP_small (Nat.le_trans ht hn) hp).up ht)
    refine ⟨h.1, ?_⟩;have h2 := h.2;rw [List.length_append, List.length_singleton] at h2;omega
theorem parseP_small {s : Str} (hs : s.length ≤ 99999) : (∀ x ∈ (parseP s).1, RlS x s.length) ∧ (parseP s).1.length ≤ s.length + 1 := by
 have h := BK (n := s.length) (by omega) (Ar.lines s) 0 [] (Ar.BQ s) (fun x hx => by cases hx);have h2 := Ar.Cy s;have h3 := h.2;rw [List.length_nil] at h3;unfold parseP;split
 ·exact ⟨fun x hx => (by cases hx), Nat.zero_le _⟩
 ·split
  ·exact ⟨fun x hx => (by cases hx), Nat.zero_le _⟩
  ·split
   ·exact ⟨fun x hx => (by cases hx), Nat.zero_le _⟩
   ·exact ⟨h.1, by show (parseL 0 [] (Ar.lines s)).1.length ≤ _; omega⟩
end Pr
namespace Go.Proofs.YtchkiegehejfmaaGreatDoor
open Go.RowKit Go.Lib
end Go.Proofs.YtchkiegehejfmaaGreatDoor
