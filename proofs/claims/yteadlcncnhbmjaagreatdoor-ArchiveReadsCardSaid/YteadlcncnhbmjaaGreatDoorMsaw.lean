/- The texts Rf1, Rf2, Anl, Rk0, Cx9 of this proof, one behind the other. -/
import Derived.Test.YteadlcncnhbmjaaGreatDoorMsau
import Derived.Test.YteadlcncnhbmjaaGreatDoorMsav
import Derived.Test.YteadlcncnhbmjaaGreatDoorMsaq
import Derived.Test.YteadlcncnhbmjaaGreatDoorMsar
import Derived.Test.YteadlcncnhbmjaaGreatDoorMsap
import Derived.Test.YteadlcncnhbmjaaGreatDoorMsan
set_option linter.unusedSimpArgs false
set_option maxHeartbeats 16000000
set_option maxRecDepth 100000
set_option linter.unusedVariables false
namespace Ar
def Rm.num (r : Rm) : Nat := r.events.length + r.rows.length + r.waiting.length + r.state.length + r.receipts.length + r.typing.length
end Ar
namespace Go.Proofs.YteadlcncnhbmjaaGreatDoor
open Go.RowKit Go.Lib
def RmX (w : World) (g : Nat) (r : Ar.Rm) : Prop := ∃ cE cR cW cH cS cC cT, RmO w g r cE cR cW cH cS cC cT
def RdA (g : Nat) (w : World) (x : Option Ar.Rm) (e : Ending) (w' : World) : Prop := ((∃ y, x = some y ∧ e = .returned (.bool true) ∧ RmX w' g y) ∨ (x = none ∧ e = .returned (.bool false))) ∧ Below g w w'
theorem RmX.lt {w : World} {g : Nat} {r : Ar.Rm} (h : RmX w g r) : g < w.heap.size := by obtain ⟨_, _, _, _, _, _, _, h⟩ := h; exact h.blk.lt
theorem RmX.below {w w' : World} {g : Nat} {r : Ar.Rm} (h : RmX w g r) (hb : Below w.heap.size w w') : RmX w' g r := by obtain ⟨_, _, _, _, _, _, _, h⟩ := h; exact ⟨_, _, _, _, _, _, _, h.below hb⟩
theorem RF {ok : Nat → Prop} {w : World} {c : Value} {n sz : Nat} {vs : List Value} (h : SlcOf ok w c n sz vs) : c.oneCell' = true := by obtain ⟨A, cap, rfl, _⟩ := h; rfl
theorem Jo {w w' : World} {g : Nat} (h : w.grownBy w' (some g)) (hg : g < w.heap.size) : Below g w w' := (Ch.of_grown h (row := none)).low (Nat.le_of_lt hg) (fun k e => by cases e)
theorem OF (s : List UInt8) (r : Ar.Rm) : Ar.rdRow s r = if rwOk s = true then some (Ar.upR r (rwX s)) else none := by
 unfold rwOk;simp only [decide_eq_true_eq];rfl
theorem Qq (s : ByteArray) (g : Nat) (r : Ar.Rm) (w : World) (hs : s.size ≤ 100000) (hRd : Ready w) (hx : RmX w g r) (hg3 : 3 ≤ g) (hn : r.num ≤ 1000000) : Calls Tryz.prog 139 #[.string s, .pointer (some ⟨g, 0, none⟩)] w (RdA g w (Ar.rdRow s.data.toList r)) := by
 obtain ⟨cE, cR, cW, cH, cS, cC, cT, h⟩ := hx;have hlt := h.blk.lt;have hlen : r.rows.length ≤ 1000000 := by unfold Ar.Rm.num at hn; omega
 refine (Lr s g (.string (bstr r.id)) cE cR cW cH cS (.int .i64 r.next) cC cT r.rows.length _ w hs hRd h.blk hg3 h.row hlen).mono ?_;rintro e w' ⟨rfl, v', h1, h2, h3, h4⟩;refine ⟨?_, h3.low (Nat.le_of_lt hlt) (fun k e => by have := (h.row.lt k e).1; omega)⟩;rw [OF]
 cases hok : rwOk s.data.toList with
 | true =>
  rw [if_pos rfl];exact .inl ⟨_, rfl, rfl, _, _, _, _, _, _, _, h.rowStep h1 h2 h3 h4⟩
 | false =>
  rw [if_neg (by decide)];exact .inr ⟨rfl, rfl⟩
theorem LM (s : List UInt8) (r : Ar.Rm) : Ar.Da s r = if enOk s = true then some (Ar.upS r (enX s)) else none := by
 unfold enOk;simp only [decide_eq_true_eq];rfl
theorem MB (s : ByteArray) (g : Nat) (r : Ar.Rm) (w : World) (hs : s.size ≤ 100000) (hRd : Ready w) (hx : RmX w g r) (hg3 : 3 ≤ g) (hn : r.num ≤ 1000000) : Calls Tryz.prog 141 #[.string s, .pointer (some ⟨g, 0, none⟩)] w (RdA g w (Ar.Da s.data.toList r)) := by
 obtain ⟨cE, cR, cW, cH, cS, cC, cT, h⟩ := hx;have hlt := h.blk.lt;have hlen : r.state.length ≤ 1000000 := by unfold Ar.Rm.num at hn; omega
 refine (Jb s g (.string (bstr r.id)) cE cR cW cH (.int .i64 r.next) cC cT cS r.state.length _ w hs hRd h.blk hg3 h.state hlen).mono ?_;rintro e w' ⟨rfl, v', h1, h2, h3, h4⟩;refine ⟨?_, h3.low (Nat.le_of_lt hlt) (fun k e => by have := (h.state.lt k e).1; omega)⟩;rw [LM]
 cases hok : enOk s.data.toList with
 | true =>
  rw [if_pos rfl];exact .inl ⟨_, rfl, rfl, _, _, _, _, _, _, _, h.stateStep h1 h2 h3 h4⟩
 | false =>
  rw [if_neg (by decide)];exact .inr ⟨rfl, rfl⟩
theorem Kf (s : List UInt8) (r : Ar.Rm) : Ar.Cs s r = if rcOk s = true then some (Ar.upC r (rcX s)) else none := by
 unfold rcOk;simp only [decide_eq_true_eq];rfl
theorem JR (s : ByteArray) (g : Nat) (r : Ar.Rm) (w : World) (hs : s.size ≤ 100000) (hRd : Ready w) (hx : RmX w g r) (hg3 : 3 ≤ g) (hn : r.num ≤ 1000000) : Calls Tryz.prog 142 #[.string s, .pointer (some ⟨g, 0, none⟩)] w (RdA g w (Ar.Cs s.data.toList r)) := by
 obtain ⟨cE, cR, cW, cH, cS, cC, cT, h⟩ := hx;have hlt := h.blk.lt;have hlen : r.receipts.length ≤ 1000000 := by unfold Ar.Rm.num at hn; omega
 refine (Hp s g (.string (bstr r.id)) cE cR cW cH cS (.int .i64 r.next) cT cC r.receipts.length _ w hs hRd h.blk hg3 h.rcp hlen).mono ?_;rintro e w' ⟨rfl, v', h1, h2, h3, h4⟩;refine ⟨?_, h3.low (Nat.le_of_lt hlt) (fun k e => by have := (h.rcp.lt k e).1; omega)⟩;rw [Kf]
 cases hok : rcOk s.data.toList with
 | true =>
  rw [if_pos rfl];exact .inl ⟨_, rfl, rfl, _, _, _, _, _, _, _, h.rcpStep h1 h2 h3 h4⟩
 | false =>
  rw [if_neg (by decide)];exact .inr ⟨rfl, rfl⟩
theorem Ls (s : List UInt8) (r : Ar.Rm) : Ar.CL s r = if tyOk s = true then some (Ar.upT r (tyX s)) else none := by
 unfold tyOk;simp only [decide_eq_true_eq];rfl
theorem Lu (s : ByteArray) (g : Nat) (r : Ar.Rm) (w : World) (hs : s.size ≤ 100000) (hRd : Ready w) (hx : RmX w g r) (hg3 : 3 ≤ g) (hn : r.num ≤ 1000000) : Calls Tryz.prog 143 #[.string s, .pointer (some ⟨g, 0, none⟩)] w (RdA g w (Ar.CL s.data.toList r)) := by
 obtain ⟨cE, cR, cW, cH, cS, cC, cT, h⟩ := hx;have hlt := h.blk.lt;have hlen : r.typing.length ≤ 1000000 := by unfold Ar.Rm.num at hn; omega
 refine (Is s g (.string (bstr r.id)) cE cR cW cH cS (.int .i64 r.next) cC cT r.typing.length _ w hs hRd h.blk hg3 h.typ hlen).mono ?_;rintro e w' ⟨rfl, v', h1, h2, h3, h4⟩;refine ⟨?_, h3.low (Nat.le_of_lt hlt) (fun k e => by have := (h.typ.lt k e).1; omega)⟩;rw [Ls]
 cases hok : tyOk s.data.toList with
 | true =>
  rw [if_pos rfl];exact .inl ⟨_, rfl, rfl, _, _, _, _, _, _, _, h.typStep h1 h2 h3 h4⟩
 | false =>
  rw [if_neg (by decide)];exact .inr ⟨rfl, rfl⟩
theorem LG (s : List UInt8) (r : Ar.Rm) : Ar.C8 s r = if hsOk s = true then some { r with heads := (hsX s).1 } else none := by
 unfold hsOk;simp only [decide_eq_true_eq];rfl
theorem Ly (s : ByteArray) (g : Nat) (r : Ar.Rm) (w : World) (hs : s.size ≤ 100000) (hRd : Ready w) (hx : RmX w g r) (hg3 : 3 ≤ g) (hn : r.num ≤ 1000000) : Calls Tryz.prog 140 #[.string s, .pointer (some ⟨g, 0, none⟩)] w (RdA g w (Ar.C8 s.data.toList r)) := by
 obtain ⟨cE, cR, cW, cH, cS, cC, cT, h⟩ := hx;have hlt := h.blk.lt;refine (I9 s g (.string (bstr r.id)) cE cR cW cH cS (.int .i64 r.next) cC cT w hs hRd h.blk hg3 (RF h.heads)).mono ?_;rintro e w' ⟨rfl, v', h1, h2, h3⟩;refine ⟨?_, Jo h3 hlt⟩;rw [LG]
 cases hok : hsOk s.data.toList with
 | true =>
  rw [if_pos rfl];exact .inl ⟨_, rfl, rfl, _, _, _, _, _, _, _, h.headsStep h1 (Ch.of_grown h3) h2⟩
 | false =>
  rw [if_neg (by decide)];exact .inr ⟨rfl, rfl⟩
theorem Nn (s : List UInt8) (r : Ar.Rm) : Ar.Cb s r = if hdOk s r.next = true then some { r with id := (hdX s).1, next := (hdZ s r.next).1 } else none := by
 unfold hdOk;simp only [decide_eq_true_eq];rfl
theorem Oc (s : ByteArray) (g : Nat) (r : Ar.Rm) (w : World) (hs : s.size ≤ 100000) (hRd : Ready w) (hx : RmX w g r) (hg3 : 3 ≤ g) (hn : r.num ≤ 1000000) (hi : Ar.inInt r.next) : Calls Tryz.prog 76 #[.string s, .pointer (some ⟨g, 0, none⟩)] w (RdA g w (Ar.Cb s.data.toList r)) := by
 obtain ⟨cE, cR, cW, cH, cS, cC, cT, h⟩ := hx;have hlt := h.blk.lt;refine (JZ s g (bstr r.id) cE cR cW cH cS r.next cC cT w hs hRd h.blk hg3 hi).mono ?_;rintro e w' ⟨rfl, h1, h3⟩;refine ⟨?_, Jo h3 hlt⟩;rw [Nn]
 cases hok : hdOk s.data.toList r.next with
 | true =>
  rw [if_pos rfl];exact .inl ⟨_, rfl, rfl, _, _, _, _, _, _, _, h.head h3 h1⟩
 | false =>
  rw [if_neg (by decide)];exact .inr ⟨rfl, rfl⟩
def RlA (g : Nat) (w : World) (x : Nat × Ar.Rm) (e : Ending) (w' : World) : Prop := (e = .returned (.int .i64 (x.1 : Int)) ∧ (x.1 ≠ 0 → RmX w' g x.2)) ∧ Below g w w'
theorem RdA.undrew {g q : Nat} {w : World} {x : Option Ar.Rm} {e : Ending} {w' : World} (h : RdA g (w.drewN q) x e w') : RdA g w x e w' := ⟨h.1, ⟨h.2.os, h.2.tape, h.2.output, h.2.size, h.2.block⟩⟩
theorem L6 (s : ByteArray) (g : Nat) (r : Ar.Rm) (w : World) (hs : s.size ≤ 100000) (hRd : Ready w) (hx : RmX w g r) (hg3 : 3 ≤ g) (hn : r.num ≤ 1000000) (hw : (Lib.cut s.data.toList [32]).1 = [114, 111, 119]) : Calls Tryz.prog 77 #[.string s, .pointer (some ⟨g, 0, none⟩)] w (RlA g w (Ar.AG s.data.toList r)) := by
 have HL : Hid (Ar.AG s.data.toList r = Ar.retK r 3 (Ar.rdRow s.data.toList r)) := hid (by rw [Ar.Bh, hw, if_neg (by decide), if_neg (by decide), if_pos rfl]);obtain ⟨mx, hmx⟩ := hRd.1;have hcut := Tryz.strings_Cut s ⟨#[32]⟩ mx w (by omega) hmx;rw [show (⟨#[32]⟩ : ByteArray).data.toList = [32] from rfl, hw] at hcut;rw [show (⟨[114, 111, 119].toArray⟩ : ByteArray) = bstr [114, 111, 119] from rfl] at hcut;have HCUT := hid hcut;have h1 : ((bstr [114, 111, 119]).toList == [101, 118, 101, 110, 116]) = false := by rw [Ay]; rfl
 have h2 : ((bstr [114, 111, 119]).toList == [119, 97, 105, 116]) = false := by rw [Ay]; rfl
 have h3 : ((bstr [114, 111, 119]).toList == [114, 111, 119]) = true := by rw [Ay]; rfl
 have HQ := hid (fun q => (Qq s g r (w.drewN q) hs hRd (hx.below (below_drewN (Below.refl _ _) q)) hg3 hn).mono fun e w' h => h.undrew);have HT : Hid (∀ W, Calls Tryz.prog 75 #[.bool true] W fun e w' => e = .returned (.int .i64 1) ∧ W = w') := hid (fun W => CX true W);have HF : Hid (∀ W, Calls Tryz.prog 75 #[.bool false] W fun e w' => e = .returned (.int .i64 0) ∧ W = w') := hid (fun W => CX false W);rw [HL.out];clear hcut hmx hw hRd hx HL;generalize bstr [114, 111, 119] = SW at *;generalize (Lib.cut s.data.toList [32]).2.1.toArray = S2 at *;generalize (Lib.cut s.data.toList [32]).2.2 = B2 at *;go_enter Tryz.func77, Tryz.ntmps77;go_wp2_with fail;refine HCUT.out.mono ?_;rintro e w2 ⟨rfl, q2, rfl⟩;go_wp2_with fail;refine (HQ.out q2).mono ?_;rintro e w3 ⟨(⟨y, hy, rfl, hr⟩ | ⟨hy, rfl⟩), hb⟩
 ·have HY : Hid (RlA g w (Ar.retK r 3 (Ar.rdRow s.data.toList r)) (.returned (.int .i64 3)) w3) := hid (by rw [hy]; exact ⟨⟨rfl, fun _ => hr⟩, hb⟩);clear hy hr hb;go_wp2_with fail;refine (HT.out _).mono ?_;rintro e w4 ⟨rfl, rfl⟩;go_wp2_with fail;go_ret;exact HY.out
 ·have HY : Hid (RlA g w (Ar.retK r 3 (Ar.rdRow s.data.toList r)) (.returned (.int .i64 0)) w3) := hid (by rw [hy]; exact ⟨⟨rfl, fun h => absurd rfl h⟩, hb⟩);clear hy hb;go_wp2_with fail;refine (HF.out _).mono ?_;rintro e w4 ⟨rfl, rfl⟩;go_wp2_with fail;go_ret;exact HY.out
theorem Ke (s : ByteArray) (g : Nat) (r : Ar.Rm) (w : World) (hs : s.size ≤ 100000) (hRd : Ready w) (hx : RmX w g r) (hg3 : 3 ≤ g) (hn : r.num ≤ 1000000) (hw : (Lib.cut s.data.toList [32]).1 = [104, 101, 97, 100, 115]) : Calls Tryz.prog 77 #[.string s, .pointer (some ⟨g, 0, none⟩)] w (RlA g w (Ar.AG s.data.toList r)) := by
 have HL : Hid (Ar.AG s.data.toList r = Ar.retK r 5 (Ar.C8 s.data.toList r)) := hid (by rw [Ar.Bh, hw, if_neg (by decide), if_neg (by decide), if_neg (by decide), if_pos rfl]);obtain ⟨mx, hmx⟩ := hRd.1;have hcut := Tryz.strings_Cut s ⟨#[32]⟩ mx w (by omega) hmx;rw [show (⟨#[32]⟩ : ByteArray).data.toList = [32] from rfl, hw] at hcut;rw [show (⟨[104, 101, 97, 100, 115].toArray⟩ : ByteArray) = bstr [104, 101, 97, 100, 115] from rfl] at hcut;have HCUT := hid hcut;have h1 : ((bstr [104, 101, 97, 100, 115]).toList == [101, 118, 101, 110, 116]) = false := by rw [Ay]; rfl
 have h2 : ((bstr [104, 101, 97, 100, 115]).toList == [119, 97, 105, 116]) = false := by rw [Ay]; rfl
 have h3 : ((bstr [104, 101, 97, 100, 115]).toList == [114, 111, 119]) = false := by rw [Ay]; rfl
 have h4 : ((bstr [104, 101, 97, 100, 115]).toList == [104, 101, 97, 100, 115]) = true := by rw [Ay]; rfl
 have HQ := hid (fun q => (Ly s g r (w.drewN q) hs hRd (hx.below (below_drewN (Below.refl _ _) q)) hg3 hn).mono fun e w' h => h.undrew);have HT : Hid (∀ W, Calls Tryz.prog 75 #[.bool true] W fun e w' => e = .returned (.int .i64 1) ∧ W = w') := hid (fun W => CX true W);have HF : Hid (∀ W, Calls Tryz.prog 75 #[.bool false] W fun e w' => e = .returned (.int .i64 0) ∧ W = w') := hid (fun W => CX false W);rw [HL.out];clear hcut hmx hw hRd hx HL;generalize bstr [104, 101, 97, 100, 115] = SW at *;generalize (Lib.cut s.data.toList [32]).2.1.toArray = S2 at *;generalize (Lib.cut s.data.toList [32]).2.2 = B2 at *;go_enter Tryz.func77, Tryz.ntmps77;go_wp2_with fail;refine HCUT.out.mono ?_;rintro e w2 ⟨rfl, q2, rfl⟩;go_wp2_with fail;refine (HQ.out q2).mono ?_;rintro e w3 ⟨(⟨y, hy, rfl, hr⟩ | ⟨hy, rfl⟩), hb⟩
 ·have HY : Hid (RlA g w (Ar.retK r 5 (Ar.C8 s.data.toList r)) (.returned (.int .i64 5)) w3) := hid (by rw [hy]; exact ⟨⟨rfl, fun _ => hr⟩, hb⟩);clear hy hr hb;go_wp2_with fail;refine (HT.out _).mono ?_;rintro e w4 ⟨rfl, rfl⟩;go_wp2_with fail;go_ret;exact HY.out
 ·have HY : Hid (RlA g w (Ar.retK r 5 (Ar.C8 s.data.toList r)) (.returned (.int .i64 0)) w3) := hid (by rw [hy]; exact ⟨⟨rfl, fun h => absurd rfl h⟩, hb⟩);clear hy hb;go_wp2_with fail;refine (HF.out _).mono ?_;rintro e w4 ⟨rfl, rfl⟩;go_wp2_with fail;go_ret;exact HY.out
theorem JV (s : ByteArray) (g : Nat) (r : Ar.Rm) (w : World) (hs : s.size ≤ 100000) (hRd : Ready w) (hx : RmX w g r) (hg3 : 3 ≤ g) (hn : r.num ≤ 1000000) (hw : (Lib.cut s.data.toList [32]).1 = [101, 110, 116, 114, 121]) : Calls Tryz.prog 77 #[.string s, .pointer (some ⟨g, 0, none⟩)] w (RlA g w (Ar.AG s.data.toList r)) := by
 have HL : Hid (Ar.AG s.data.toList r = Ar.retK r 6 (Ar.Da s.data.toList r)) := hid (by rw [Ar.Bh, hw, if_neg (by decide), if_neg (by decide), if_neg (by decide), if_neg (by decide), if_pos rfl]);obtain ⟨mx, hmx⟩ := hRd.1;have hcut := Tryz.strings_Cut s ⟨#[32]⟩ mx w (by omega) hmx;rw [show (⟨#[32]⟩ : ByteArray).data.toList = [32] from rfl, hw] at hcut;rw [show (⟨[101, 110, 116, 114, 121].toArray⟩ : ByteArray) = bstr [101, 110, 116, 114, 121] from rfl] at hcut;have HCUT := hid hcut;have h1 : ((bstr [101, 110, 116, 114, 121]).toList == [101, 118, 101, 110, 116]) = false := by rw [Ay]; rfl
 have h2 : ((bstr [101, 110, 116, 114, 121]).toList == [119, 97, 105, 116]) = false := by rw [Ay]; rfl
 have h3 : ((bstr [101, 110, 116, 114, 121]).toList == [114, 111, 119]) = false := by rw [Ay]; rfl
 have h4 : ((bstr [101, 110, 116, 114, 121]).toList == [104, 101, 97, 100, 115]) = false := by rw [Ay]; rfl
 have h5 : ((bstr [101, 110, 116, 114, 121]).toList == [101, 110, 116, 114, 121]) = true := by rw [Ay]; rfl
 have HQ := hid (fun q => (MB s g r (w.drewN q) hs hRd (hx.below (below_drewN (Below.refl _ _) q)) hg3 hn).mono fun e w' h => h.undrew);have HT : Hid (∀ W, Calls Tryz.prog 75 #[.bool true] W fun e w' => e = .returned (.int .i64 1) ∧ W = w') := hid (fun W => CX true W);have HF : Hid (∀ W, Calls Tryz.prog 75 #[.bool false] W fun e w' => e = .returned (.int .i64 0) ∧ W = w') := hid (fun W => CX false W);rw [HL.out];clear hcut hmx hw hRd hx HL;generalize bstr [101, 110, 116, 114, 121] = SW at *;generalize (Lib.cut s.data.toList [32]).2.1.toArray = S2 at *;generalize (Lib.cut s.data.toList [32]).2.2 = B2 at *;go_enter Tryz.func77, Tryz.ntmps77;go_wp2_with fail;refine HCUT.out.mono ?_;rintro e w2 ⟨rfl, q2, rfl⟩;go_wp2_with fail;refine (HQ.out q2).mono ?_;rintro e w3 ⟨(⟨y, hy, rfl, hr⟩ | ⟨hy, rfl⟩), hb⟩
 ·have HY : Hid (RlA g w (Ar.retK r 6 (Ar.Da s.data.toList r)) (.returned (.int .i64 6)) w3) := hid (by rw [hy]; exact ⟨⟨rfl, fun _ => hr⟩, hb⟩);clear hy hr hb;go_wp2_with fail;refine (HT.out _).mono ?_;rintro e w4 ⟨rfl, rfl⟩;go_wp2_with fail;go_ret;exact HY.out
 ·have HY : Hid (RlA g w (Ar.retK r 6 (Ar.Da s.data.toList r)) (.returned (.int .i64 0)) w3) := hid (by rw [hy]; exact ⟨⟨rfl, fun h => absurd rfl h⟩, hb⟩);clear hy hb;go_wp2_with fail;refine (HF.out _).mono ?_;rintro e w4 ⟨rfl, rfl⟩;go_wp2_with fail;go_ret;exact HY.out
theorem I4 (s : ByteArray) (g : Nat) (r : Ar.Rm) (w : World) (hs : s.size ≤ 100000) (hRd : Ready w) (hx : RmX w g r) (hg3 : 3 ≤ g) (hn : r.num ≤ 1000000) (hw : (Lib.cut s.data.toList [32]).1 = [114, 101, 99, 101, 105, 112, 116]) : Calls Tryz.prog 77 #[.string s, .pointer (some ⟨g, 0, none⟩)] w (RlA g w (Ar.AG s.data.toList r)) := by
 have HL : Hid (Ar.AG s.data.toList r = Ar.retK r 7 (Ar.Cs s.data.toList r)) := hid (by rw [Ar.Bh, hw, if_neg (by decide), if_neg (by decide), if_neg (by decide), if_neg (by decide), if_neg (by decide), if_pos rfl]);obtain ⟨mx, hmx⟩ := hRd.1;have hcut := Tryz.strings_Cut s ⟨#[32]⟩ mx w (by omega) hmx;rw [show (⟨#[32]⟩ : ByteArray).data.toList = [32] from rfl, hw] at hcut;rw [show (⟨[114, 101, 99, 101, 105, 112, 116].toArray⟩ : ByteArray) = bstr [114, 101, 99, 101, 105, 112, 116] from rfl] at hcut;have HCUT := hid hcut;have h1 : ((bstr [114, 101, 99, 101, 105, 112, 116]).toList == [101, 118, 101, 110, 116]) = false := by rw [Ay]; rfl
 have h2 : ((bstr [114, 101, 99, 101, 105, 112, 116]).toList == [119, 97, 105, 116]) = false := by rw [Ay]; rfl
 have h3 : ((bstr [114, 101, 99, 101, 105, 112, 116]).toList == [114, 111, 119]) = false := by rw [Ay]; rfl
 have h4 : ((bstr [114, 101, 99, 101, 105, 112, 116]).toList == [104, 101, 97, 100, 115]) = false := by rw [Ay]; rfl
 have h5 : ((bstr [114, 101, 99, 101, 105, 112, 116]).toList == [101, 110, 116, 114, 121]) = false := by rw [Ay]; rfl
 have h6 : ((bstr [114, 101, 99, 101, 105, 112, 116]).toList == [114, 101, 99, 101, 105, 112, 116]) = true := by rw [Ay]; rfl
 have HQ := hid (fun q => (JR s g r (w.drewN q) hs hRd (hx.below (below_drewN (Below.refl _ _) q)) hg3 hn).mono fun e w' h => h.undrew);have HT : Hid (∀ W, Calls Tryz.prog 75 #[.bool true] W fun e w' => e = .returned (.int .i64 1) ∧ W = w') := hid (fun W => CX true W);have HF : Hid (∀ W, Calls Tryz.prog 75 #[.bool false] W fun e w' => e = .returned (.int .i64 0) ∧ W = w') := hid (fun W => CX false W);rw [HL.out];clear hcut hmx hw hRd hx HL;generalize bstr [114, 101, 99, 101, 105, 112, 116] = SW at *;generalize (Lib.cut s.data.toList [32]).2.1.toArray = S2 at *;generalize (Lib.cut s.data.toList [32]).2.2 = B2 at *;go_enter Tryz.func77, Tryz.ntmps77;go_wp2_with fail;refine HCUT.out.mono ?_;rintro e w2 ⟨rfl, q2, rfl⟩;go_wp2_with fail;refine (HQ.out q2).mono ?_;rintro e w3 ⟨(⟨y, hy, rfl, hr⟩ | ⟨hy, rfl⟩), hb⟩
 ·have HY : Hid (RlA g w (Ar.retK r 7 (Ar.Cs s.data.toList r)) (.returned (.int .i64 7)) w3) := hid (by rw [hy]; exact ⟨⟨rfl, fun _ => hr⟩, hb⟩);clear hy hr hb;go_wp2_with fail;refine (HT.out _).mono ?_;rintro e w4 ⟨rfl, rfl⟩;go_wp2_with fail;go_ret;exact HY.out
 ·have HY : Hid (RlA g w (Ar.retK r 7 (Ar.Cs s.data.toList r)) (.returned (.int .i64 0)) w3) := hid (by rw [hy]; exact ⟨⟨rfl, fun h => absurd rfl h⟩, hb⟩);clear hy hb;go_wp2_with fail;refine (HF.out _).mono ?_;rintro e w4 ⟨rfl, rfl⟩;go_wp2_with fail;go_ret;exact HY.out
theorem I8 (s : ByteArray) (g : Nat) (r : Ar.Rm) (w : World) (hs : s.size ≤ 100000) (hRd : Ready w) (hx : RmX w g r) (hg3 : 3 ≤ g) (hn : r.num ≤ 1000000) (hw : (Lib.cut s.data.toList [32]).1 = [116, 121, 112, 105, 110, 103]) : Calls Tryz.prog 77 #[.string s, .pointer (some ⟨g, 0, none⟩)] w (RlA g w (Ar.AG s.data.toList r)) := by
 have HL : Hid (Ar.AG s.data.toList r = Ar.retK r 8 (Ar.CL s.data.toList r)) := hid (by rw [Ar.Bh, hw, if_neg (by decide), if_neg (by decide), if_neg (by decide), if_neg (by decide), if_neg (by decide), if_neg (by decide), if_pos rfl]);obtain ⟨mx, hmx⟩ := hRd.1;have hcut := Tryz.strings_Cut s ⟨#[32]⟩ mx w (by omega) hmx;rw [show (⟨#[32]⟩ : ByteArray).data.toList = [32] from rfl, hw] at hcut;rw [show (⟨[116, 121, 112, 105, 110, 103].toArray⟩ : ByteArray) = bstr [116, 121, 112, 105, 110, 103] from rfl] at hcut;have HCUT := hid hcut;have h1 : ((bstr [116, 121, 112, 105, 110, 103]).toList == [101, 118, 101, 110, 116]) = false := by rw [Ay]; rfl
 have h2 : ((bstr [116, 121, 112, 105, 110, 103]).toList == [119, 97, 105, 116]) = false := by rw [Ay]; rfl
 have h3 : ((bstr [116, 121, 112, 105, 110, 103]).toList == [114, 111, 119]) = false := by rw [Ay]; rfl
 have h4 : ((bstr [116, 121, 112, 105, 110, 103]).toList == [104, 101, 97, 100, 115]) = false := by rw [Ay]; rfl
 have h5 : ((bstr [116, 121, 112, 105, 110, 103]).toList == [101, 110, 116, 114, 121]) = false := by rw [Ay]; rfl
 have h6 : ((bstr [116, 121, 112, 105, 110, 103]).toList == [114, 101, 99, 101, 105, 112, 116]) = false := by rw [Ay]; rfl
 have h7 : ((bstr [116, 121, 112, 105, 110, 103]).toList == [116, 121, 112, 105, 110, 103]) = true := by rw [Ay]; rfl
 have HQ := hid (fun q => (Lu s g r (w.drewN q) hs hRd (hx.below (below_drewN (Below.refl _ _) q)) hg3 hn).mono fun e w' h => h.undrew);have HT : Hid (∀ W, Calls Tryz.prog 75 #[.bool true] W fun e w' => e = .returned (.int .i64 1) ∧ W = w') := hid (fun W => CX true W);have HF : Hid (∀ W, Calls Tryz.prog 75 #[.bool false] W fun e w' => e = .returned (.int .i64 0) ∧ W = w') := hid (fun W => CX false W);rw [HL.out];clear hcut hmx hw hRd hx HL;generalize bstr [116, 121, 112, 105, 110, 103] = SW at *;generalize (Lib.cut s.data.toList [32]).2.1.toArray = S2 at *;generalize (Lib.cut s.data.toList [32]).2.2 = B2 at *;go_enter Tryz.func77, Tryz.ntmps77;go_wp2_with fail;refine HCUT.out.mono ?_;rintro e w2 ⟨rfl, q2, rfl⟩;go_wp2_with fail;refine (HQ.out q2).mono ?_;rintro e w3 ⟨(⟨y, hy, rfl, hr⟩ | ⟨hy, rfl⟩), hb⟩
 ·have HY : Hid (RlA g w (Ar.retK r 8 (Ar.CL s.data.toList r)) (.returned (.int .i64 8)) w3) := hid (by rw [hy]; exact ⟨⟨rfl, fun _ => hr⟩, hb⟩);clear hy hr hb;go_wp2_with fail;refine (HT.out _).mono ?_;rintro e w4 ⟨rfl, rfl⟩;go_wp2_with fail;go_ret;exact HY.out
 ·have HY : Hid (RlA g w (Ar.retK r 8 (Ar.CL s.data.toList r)) (.returned (.int .i64 0)) w3) := hid (by rw [hy]; exact ⟨⟨rfl, fun h => absurd rfl h⟩, hb⟩);clear hy hb;go_wp2_with fail;refine (HF.out _).mono ?_;rintro e w4 ⟨rfl, rfl⟩;go_wp2_with fail;go_ret;exact HY.out
theorem Kj (s : ByteArray) (g : Nat) (r : Ar.Rm) (w : World) (hs : s.size ≤ 100000) (hRd : Ready w) (hx : RmX w g r) (hg3 : 3 ≤ g) (hn : r.num ≤ 1000000) (h1' : (Lib.cut s.data.toList [32]).1 ≠ [101, 118, 101, 110, 116]) (h2' : (Lib.cut s.data.toList [32]).1 ≠ [119, 97, 105, 116]) (h3' : (Lib.cut s.data.toList [32]).1 ≠ [114, 111, 119]) (h4' : (Lib.cut s.data.toList [32]).1 ≠ [104, 101, 97, 100, 115]) (h5' : (Lib.cut s.data.toList [32]).1 ≠ [101, 110, 116, 114, 121]) (h6' : (Lib.cut s.data.toList [32]).1 ≠ [114, 101, 99, 101, 105, 112, 116]) (h7' : (Lib.cut s.data.toList [32]).1 ≠ [116, 121, 112, 105, 110, 103]) : Calls Tryz.prog 77 #[.string s, .pointer (some ⟨g, 0, none⟩)] w (RlA g w (Ar.AG s.data.toList r)) := by
 have HL : Hid (Ar.AG s.data.toList r = (0, r)) := hid (by rw [Ar.Bh, if_neg (show ¬ ((Lib.cut s.data.toList [32]).1 = Ar.evN) from h1'), if_neg (show ¬ ((Lib.cut s.data.toList [32]).1 = Ar.waitN) from h2'), if_neg h3', if_neg h4', if_neg h5', if_neg h6', if_neg h7']);obtain ⟨mx, hmx⟩ := hRd.1;have hcut := Tryz.strings_Cut s ⟨#[32]⟩ mx w (by omega) hmx;rw [show (⟨#[32]⟩ : ByteArray).data.toList = [32] from rfl] at hcut;rw [HL.out];clear HL;generalize (Lib.cut s.data.toList [32]).1 = W at *;rw [show (⟨W.toArray⟩ : ByteArray) = bstr W from rfl] at hcut;have HCUT := hid hcut;have h1 : ((bstr W).toList == [101, 118, 101, 110, 116]) = false := by rw [Ay]; exact beq_eq_false_iff_ne.2 h1'
 have h2 : ((bstr W).toList == [119, 97, 105, 116]) = false := by rw [Ay]; exact beq_eq_false_iff_ne.2 h2'
 have h3 : ((bstr W).toList == [114, 111, 119]) = false := by rw [Ay]; exact beq_eq_false_iff_ne.2 h3'
 have h4 : ((bstr W).toList == [104, 101, 97, 100, 115]) = false := by rw [Ay]; exact beq_eq_false_iff_ne.2 h4'
 have h5 : ((bstr W).toList == [101, 110, 116, 114, 121]) = false := by rw [Ay]; exact beq_eq_false_iff_ne.2 h5'
 have h6 : ((bstr W).toList == [114, 101, 99, 101, 105, 112, 116]) = false := by rw [Ay]; exact beq_eq_false_iff_ne.2 h6'
 have h7 : ((bstr W).toList == [116, 121, 112, 105, 110, 103]) = false := by rw [Ay]; exact beq_eq_false_iff_ne.2 h7'
 have HG := hid hx.lt;clear hcut hmx hRd hx h1' h2' h3' h4' h5' h6' h7';generalize bstr W = SW at *;generalize (Lib.cut s.data.toList [32]).2.1.toArray = S2 at *;generalize (Lib.cut s.data.toList [32]).2.2 = B2 at *;go_enter Tryz.func77, Tryz.ntmps77;go_wp2_with fail;refine HCUT.out.mono ?_;rintro e w2 ⟨rfl, q2, rfl⟩;go_wp2_with fail;go_ret;exact ⟨⟨rfl, fun h => absurd rfl h⟩, below_drewN (Below.refl _ _) q2⟩
theorem Rv {x : List UInt8} (h : hasPrefix x Ar.evW = true) : trimPrefix x Ar.evW = x.drop 6 := by unfold trimPrefix; rw [if_pos h]; rfl
theorem Pm (a b : Nat) (ha : a < 4611686018427387904) (hb : b < 4611686018427387904) : bits .and .i64 (wrap64 ((a : Int) + (b : Int))) 4611686018427387903 = (((a + b) % 4611686018427387904 : Nat) : Int) := by
 rw [Pj];unfold wrap64;omega
theorem Ko (W : World) (s : ByteArray) : (convert 9 69 (.string s)).run Tryz.prog W = .ok (.slice (some ⟨W.heap.size, 0, none⟩) s.size (grownCap W s.size 0 5)) (W.drew.alloc (.cells (bytesRow s (grownCap W s.size 0 5)) 5 ((bytesRow s (grownCap W s.size 0 5)).size, (bytesRow s (grownCap W s.size 0 5)).size + 1))) :=
 run_bytes_of_string W _ _ _ s Tryz.underlying9 Tryz.underlying69 Tryz.underlying5
theorem PO (s : ByteArray) (w : World) (hs : s.size ≤ 100000) (hR : Ready w) :
  Calls Tryz.prog 39 #[.string s] w fun e w' => e = .returned (.int .i64 (sums (Ar.lines s.data.toList) : Nat)) ∧ Below w.heap.size w w' := by
 have HR := hid hR;clear hR;go_enter Tryz.func39, Tryz.ntmps39;go_wp2_with fail;refine (De s w (by omega) HR.out).mono ?_;rintro e w1 ⟨rfl, rfl⟩;have HSH := hid (Ar.Cj s.data.toList);have hll := Ar.DC s.data.toList;have hsz : s.data.toList.length = s.size := AI s;rw [hsz] at hll;have HSZ := hid hsz;clear hsz;generalize hLL : Ar.lines s.data.toList = L at *;have HLL := hid hLL;clear hLL;have HRL := hid (Rd.litS w L);have HB0 := hid ((Below.refl w.heap.size w).alloc (Nat.le_refl _) (.cells (strL L).toArray 9));go_wp2_with fail
 go_loopw [3, 11] (fun t ix wr => ∃ k : Nat, k ≤ L.length ∧ ix = .int .i64 k ∧ t = .int .i64 ((L.take k).foldl sumL 0 : Nat) ∧ Below (w.heap.size + 1) (w.alloc (.cells (strL L).toArray 9)) wr) (fun _ ix _ => L.length - (RowKit.intOf ix).toNat)
 case atStart => exact ⟨0, by omega, rfl, rfl, Below.refl _ _⟩
 case round =>
  obtain ⟨k, hk, rfl, rfl, hb⟩ := hrel;have HB := hid hb;have hbs := hb.size;rw [World.size_alloc] at hbs;clear hb;have hT := KZ (L.take k) 0 (by omega);by_cases hlt : k < L.length
  ·obtain ⟨ba, oa, x, e1, hx, hc0⟩ := (HRL.out.below (by rw [World.size_alloc]; exact HB.out)).str_at hlt;injection e1 with e1;injection e1 with e1 e2 e3;subst e1 e2;rw [Nat.zero_add] at hc0;have HXK := hid (BF hx);have HXL : Hid (x.length ≤ s.size) := hid (by have := HSH.out x (List.mem_of_getElem? hx); rw [HSZ.out] at this; exact this);have hcp := Tryz.strings_CutPrefix (bstr x) ⟨#[101, 118, 101, 110, 116, 32]⟩;rw [show (bstr x).data.toList = x from rfl, show (⟨#[101, 118, 101, 110, 116, 32]⟩ : ByteArray).data.toList = Ar.evW from rfl] at hcp;have HCP := hid hcp;clear hx hcp;by_cases hp : hasPrefix x Ar.evW = true
   ·have HT := hid (Rv hp);have HS := hid (show sumL ((L.take k).foldl sumL 0) x = ((L.take k).foldl sumL 0 + sumB (x.drop 6)) % 4611686018427387904 from if_pos hp);have HP := hid hp;clear hp;generalize bstr x = X at *;go_wp2_with fail;refine (HCP.out _).mono ?_;rintro e w2 ⟨rfl, rfl⟩;rw [HP.out, HT.out, show (⟨(x.drop 6).toArray⟩ : ByteArray) = bstr (x.drop 6) from rfl];have hcv := Ko w2 (bstr (x.drop 6));have hsl := MF (x.drop 6);generalize hD : x.drop 6 = D at *;generalize hcap : grownCap w2 (bstr D).size 0 5 = cap at *;have HRD := hid (Rd.bytes_new w2.drew (bstr D) cap ((bytesRow (bstr D) cap).size, (bytesRow (bstr D) cap).size + 1));have HDL : Hid (D.length ≤ 1000000) := hid (by rw [← hD, List.length_drop]; have := HXL.out; omega);have hsD : (bstr D).size = D.length := Ab D;clear hD hcap;go_wp2_with fail;refine (PT _ cap D _ HRD.out HDL.out).mono ?_;rintro e w3 ⟨rfl, rfl⟩;have key := Pm ((L.take k).foldl sumL 0) (sumB D) hT hsl;obtain ⟨R, hR⟩ : ∃ R : Nat, ((L.take k).foldl sumL 0 + sumB D) % 4611686018427387904 = R := ⟨_, rfl⟩;rw [hR] at key;have HRR : Hid ((L.take (k + 1)).foldl sumL 0 = R) := hid (by rw [HXK.out, List.foldl_append, List.foldl_cons, List.foldl_nil, HS.out]; exact hR);clear hT hsl hR HS HT HP HXK;generalize (L.take k).foldl sumL 0 = T at *;generalize sumB D = S at *;go_wp2_with fail
    go_roundw
    case rel => exact ⟨k + 1, by omega, by go_num, by rw [HRR.out], (HB.out.alloc hbs _).drew⟩
    case measure => simp [RowKit.intOf]; omega
   ·have hp' : hasPrefix x Ar.evW = false := by simpa using hp
    have HS := hid (show sumL ((L.take k).foldl sumL 0) x = (L.take k).foldl sumL 0 from if_neg hp);have HP := hid hp';clear hp hp';generalize bstr x = X at *;go_wp2_with fail;refine (HCP.out _).mono ?_;rintro e w2 ⟨rfl, rfl⟩;rw [HP.out];go_wp2_with fail
    go_roundw
    case rel => exact ⟨k + 1, by omega, by go_num, by rw [HXK.out, List.foldl_append, List.foldl_cons, List.foldl_nil, HS.out], HB.out⟩
    case measure => simp [RowKit.intOf]; omega
  ·obtain rfl : k = L.length := by omega
   have HF : Hid (Below w.heap.size w wr) := hid (HB0.out.trans (HB.out.mono (by omega)));rw [List.take_length];go_wp2_with fail;go_ret;exact ⟨Cq (by rw [HLL.out]; rfl), HF.out⟩
section
variable {P : Program} {ops : Array Oper} {rest : List Oper} {o : Oper} {a : Act} {w : World} {Q : Exit → Act → World → Prop}
theorem Aa (hgd : o.guard = none) (ty : TypeId) (x y : Operand) (ho : o.op = .store ty x y)
  (g : Nat) (cells : Array Value) (hx : a.eval x = .pointer (some ⟨g, 0, none⟩)) (hy : a.eval y = .agg cells)
  (t : TypeId) (old : Array Value) (hg : Blk w g t old) (hi : (P.info? ty).map (·.size) = some cells.size)
  (hold : old.size = cells.size) (h1 : cells.all (·.oneCell') = true)
  (h : ∀ w', Blk w' g t cells → w'.heap.size = w.heap.size → (∀ B, B ≤ g → Below B w w') → (∀ k, k ≠ g → w'.heap[k]? = w.heap[k]?) → wpList P ops Q rest (a.put o.dst undef) w') : wpList P ops Q (o :: rest) a w :=
 wpList_store_row hgd ty x y ho g cells hx hy t old hg hi hold h1
  (h _ (setRow_heap _ _ _ _ _ _ hg) (setRow_size _ _ _) (fun _ hB => below_setRow (Below.refl _ _) hB _) (fun k hk => setRow_other _ _ _ _ hk))
end
end Go.Proofs.YteadlcncnhbmjaaGreatDoor
namespace Ar
theorem CU {s t : Str} {n : Int} (h : xnum s = some (n, t)) : s = itoa n ++ t := by
 unfold xnum at h
 cases hr : rint (s.takeWhile numch) with
 | none => rw [hr] at h; cases h
 | some m =>
  rw [hr] at h;injection h with h;injection h with h1 h2;rw [← h1, ← h2, ← (Ei hr).1, List.takeWhile_append_dropWhile]
theorem BZ {c : UInt8} {s t : Str} (h : xsign c s = some t) : s = c :: t := by
 cases s with
 | nil => cases h
 | cons d r =>
  change (if d = c then some r else none) = some t at h;split at h
  ·rename_i e; injection h with h; rw [h, e]
  ·cases h
theorem Gc {c : UInt8} {s t : Str} (h : xsign c s = some t) : t.length + 1 = s.length := by rw [BZ h]; rfl
theorem Lf {s t : Str} {x : Str × Int} (h : xusr s = some (x, t)) : s = usrT x ++ t := by
 unfold xusr at h
 cases h1 : At s with
 | none => rw [h1] at h; cases h
 | some p =>
  rw [h1] at h;simp only [Option.bind_some] at h
  cases h2 : xsign 58 p.2 with
  | none => rw [h2] at h; cases h
  | some r =>
   rw [h2] at h;simp only [Option.bind_some] at h
   cases h3 : xnum r with
   | none => rw [h3] at h; cases h
   | some n =>
    rw [h3] at h;injection h with h;injection h with h4 h5;rw [← h4, ← h5, Bm h1, BZ h2, CU h3];unfold usrT;simp
theorem KB {s t : Str} {x : Int × Int} (h : xknd s = some (x, t)) : s = kndT x ++ t := by
 unfold xknd at h
 cases h1 : xnum s with
 | none => rw [h1] at h; cases h
 | some p =>
  rw [h1] at h;simp only [Option.bind_some] at h
  cases h2 : xsign 58 p.2 with
  | none => rw [h2] at h; cases h
  | some r =>
   rw [h2] at h;simp only [Option.bind_some] at h
   cases h3 : xnum r with
   | none => rw [h3] at h; cases h
   | some n =>
    rw [h3] at h;injection h with h;injection h with h4 h5;rw [← h4, ← h5, CU h1, BZ h2, CU h3];unfold kndT;simp
theorem Co {α : Type} {one : Str → Option (α × Str)} {tx : α → Str} (h1 : ∀ s x t, one s = some (x, t) → s = tx x ++ t) :
  ∀ (n : Nat) (s t : Str) (l : List α), AD one n s = some (l, t) → s = join [44] (l.map tx) ++ t ∧ l ≠ [] ∧ l.length ≤ s.length + 1 ∧ ∀ x ∈ l, (tx x).length ≤ s.length
 | 0, s, t, l, h => by cases h
 | n + 1, s, t, l, h => by
  unfold AD at h
  cases ho : one s with
  | none => rw [ho] at h; cases h
  | some p =>
   rw [ho] at h;simp only [Option.bind_some] at h;have hp := h1 s p.1 p.2 ho;have hpl : s.length = (tx p.1).length + p.2.length := by rw [hp, List.length_append]
   split at h
   ·injection h with h;injection h with h2 h3;rw [← h2, ← h3];refine ⟨hp, by simp, by simp, fun x hx => ?_⟩;rw [List.mem_singleton.1 hx];omega
   ·rename_i r hr;have hs := BZ hr;have hsl : p.2.length = r.length + 1 := by rw [hs]; rfl
    cases hq : AD one n r with
    | none => rw [hq] at h; cases h
    | some q =>
     rw [hq] at h;injection h with h;injection h with h2 h3;obtain ⟨i1, i2, i3, i4⟩ := Co h1 n r q.2 q.1 hq;rw [← h2, ← h3];refine ⟨?_, by simp, by rw [List.length_cons]; omega, fun x hx => ?_⟩
     ·cases hql : q.1 with
      | nil => exact absurd hql i2
      | cons y l =>
       rw [hql] at i1;have hp2 := hp;rw [hs, i1] at hp2;rw [hp2];simp [List.map_cons, join, List.append_assoc]
     ·rcases List.mem_cons.1 hx with rfl | hx
      ·omega
      ·have := i4 x hx; omega
theorem EC (s : Str) : s.length ≤ (quote s).length := by
 have : ∀ l : Str, l.length ≤ (l.flatMap esc).length := by
  intro l
  induction l with
  | nil => exact Nat.le_refl _
  | cons c l ih =>
   rw [List.flatMap_cons, List.length_append, List.length_cons];have := (Hv c).1;omega
 have := this s;show s.length ≤ (34 :: (s.flatMap esc ++ [34])).length;rw [List.length_cons, List.length_append];omega
theorem KJ (p : Str × Int) : p.1.length ≤ (usrT p).length := by
 have := EC p.1;unfold usrT;rw [List.length_append];omega
theorem Hg {k : FK} {s t : Str} {v : FV} (n : Nat) (hs : s.length ≤ n) (hn : n ≤ 100000) (h : DE k s = some (v, t)) : v.Fine n := by
 have hok := (Fr k h).2;have key : ∀ T : Str, ∀ u : Str, s = T ++ u → T.length ≤ n := fun T u e => by rw [e, List.length_append] at hs; omega
 cases k with
 | flg => injection h with h; injection h with h1 h2; rw [← h1]; exact ⟨⟨trivial, Nat.zero_le _, trivial⟩, Nat.zero_le _⟩
 | num =>
  have h : (xnum s).map _ = _ := h
  cases hx : xnum s with
  | none => rw [hx] at h; cases h
  | some p =>
   rw [hx] at h; injection h with h; injection h with h1 h2; rw [← h1] at hok ⊢
   have hl := key _ _ (CU hx);have ht : (FV.num p.1).text.length ≤ n + 4 := by
    show (if p.1 = 0 then [] else itoa p.1).length ≤ _;split
    ·exact Nat.zero_le _
    ·omega
   exact ⟨⟨hok, by omega, trivial⟩, ht⟩
 | txt =>
  have h : (At s).map _ = _ := h
  cases hx : At s with
  | none => rw [hx] at h; cases h
  | some p =>
   rw [hx] at h; injection h with h; injection h with h1 h2; rw [← h1] at hok ⊢
   have hl := key _ _ (Bm hx);have hq := EC p.1;have ht : (FV.txt p.1).text.length ≤ n + 4 := by
    show (if p.1 = [] then [] else quote p.1).length ≤ _;split
    ·exact Nat.zero_le _
    ·omega
   exact ⟨⟨hok, by omega, by show p.1.length ≤ _; omega⟩, ht⟩
 | nums =>
  have h : (xlist xnum s).map _ = _ := h
  cases hx : xlist xnum s with
  | none => rw [hx] at h; cases h
  | some p =>
   rw [hx] at h; injection h with h; injection h with h1 h2; rw [← h1] at hok ⊢
   obtain ⟨i1, _, i3, i4⟩ := Co (tx := itoa) (fun _ _ _ h => CU h) _ _ _ _ hx;have hl := key _ _ i1;have ht : (FV.nums p.1).text.length ≤ n + 4 := by show (join [44] (p.1.map itoa)).length ≤ _; omega
   exact ⟨⟨hok, by omega, by show p.1.length ≤ _; omega⟩, ht⟩
 | txts =>
  have h : (xlist At s).map _ = _ := h
  cases hx : xlist At s with
  | none => rw [hx] at h; cases h
  | some p =>
   rw [hx] at h; injection h with h; injection h with h1 h2; rw [← h1] at hok ⊢
   obtain ⟨i1, _, i3, i4⟩ := Co (tx := quote) (fun _ _ _ h => Bm h) _ _ _ _ hx;have hl := key _ _ i1;have ht : (FV.txts p.1).text.length ≤ n + 4 := by show (join [44] (p.1.map quote)).length ≤ _; omega
   exact ⟨⟨hok, by omega, ⟨by show p.1.length ≤ _; omega, fun x hx => by have := i4 x hx; have := EC x; omega⟩⟩, ht⟩
 | usrs =>
  have h : (xlist xusr s).map _ = _ := h
  cases hx : xlist xusr s with
  | none => rw [hx] at h; cases h
  | some p =>
   rw [hx] at h; injection h with h; injection h with h1 h2; rw [← h1] at hok ⊢
   obtain ⟨i1, _, i3, i4⟩ := Co (tx := usrT) (fun _ _ _ h => Lf h) _ _ _ _ hx;have hl := key _ _ i1;have ht : (FV.usrs p.1).text.length ≤ n + 4 := by show (join [44] (p.1.map usrT)).length ≤ _; omega
   exact ⟨⟨hok, by omega, ⟨by show p.1.length ≤ _; omega, fun x hx => by have := i4 x hx; have := KJ x; omega⟩⟩, ht⟩
 | knds =>
  have h : (xlist xknd s).map _ = _ := h
  cases hx : xlist xknd s with
  | none => rw [hx] at h; cases h
  | some p =>
   rw [hx] at h; injection h with h; injection h with h1 h2; rw [← h1] at hok ⊢
   obtain ⟨i1, _, i3, i4⟩ := Co (tx := kndT) (fun _ _ _ h => KB h) _ _ _ _ hx;have hl := key _ _ i1;have ht : (FV.knds p.1).text.length ≤ n + 4 := by show (join [44] (p.1.map kndT)).length ≤ _; omega
   exact ⟨⟨hok, by omega, by show p.1.length ≤ _; omega⟩, ht⟩
theorem He {i : Nat} {s t : Str} {v : FV} (n : Nat) (hs : s.length ≤ n) (hn : n ≤ 100000) (h : Bq i s = some (v, t)) : v.Fine n := by
 unfold Bq at h;split at h
 ·exact Hg n hs hn h
 ·cases hx : xsign 61 s with
  | none => rw [hx] at h; cases h
  | some r =>
   rw [hx] at h;simp only [Option.bind_some] at h;have := Gc hx;exact Hg n (by omega) hn h
theorem G7 {k : FK} {s t : Str} {v : FV} (h : DE k s = some (v, t)) : t.length ≤ s.length := by
 have key : ∀ T u : Str, s = T ++ u → u.length ≤ s.length := fun T u e => by rw [e, List.length_append]; omega
 cases k with
 | flg => injection h with h; injection h with h1 h2; rw [h2]; exact Nat.le_refl _
 | num =>
  have h : (xnum s).map _ = _ := h
  cases hx : xnum s with
  | none => rw [hx] at h; cases h
  | some p => rw [hx] at h; injection h with h; injection h with h1 h2; rw [← h2]; exact key _ _ (CU hx)
 | txt =>
  have h : (At s).map _ = _ := h
  cases hx : At s with
  | none => rw [hx] at h; cases h
  | some p => rw [hx] at h; injection h with h; injection h with h1 h2; rw [← h2]; exact key _ _ (Bm hx)
 | nums =>
  have h : (xlist xnum s).map _ = _ := h
  cases hx : xlist xnum s with
  | none => rw [hx] at h; cases h
  | some p => rw [hx] at h; injection h with h; injection h with h1 h2; rw [← h2]; exact key _ _ (Co (tx := itoa) (fun _ _ _ h => CU h) _ _ _ _ hx).1
 | txts =>
  have h : (xlist At s).map _ = _ := h
  cases hx : xlist At s with
  | none => rw [hx] at h; cases h
  | some p => rw [hx] at h; injection h with h; injection h with h1 h2; rw [← h2]; exact key _ _ (Co (tx := quote) (fun _ _ _ h => Bm h) _ _ _ _ hx).1
 | usrs =>
  have h : (xlist xusr s).map _ = _ := h
  cases hx : xlist xusr s with
  | none => rw [hx] at h; cases h
  | some p => rw [hx] at h; injection h with h; injection h with h1 h2; rw [← h2]; exact key _ _ (Co (tx := usrT) (fun _ _ _ h => Lf h) _ _ _ _ hx).1
 | knds =>
  have h : (xlist xknd s).map _ = _ := h
  cases hx : xlist xknd s with
  | none => rw [hx] at h; cases h
  | some p => rw [hx] at h; injection h with h; injection h with h1 h2; rw [← h2]; exact key _ _ (Co (tx := kndT) (fun _ _ _ h => KB h) _ _ _ _ hx).1
theorem Hl {i : Nat} {s t : Str} {v : FV} (h : Bq i s = some (v, t)) : t.length ≤ s.length := by
 unfold Bq at h;split at h
 ·exact G7 h
 ·cases hx : xsign 61 s with
  | none => rw [hx] at h; cases h
  | some r =>
   rw [hx] at h;simp only [Option.bind_some] at h;have := Gc hx;have := G7 h;omega
theorem Iy {s t : Str} {i : Nat} (h : xname s = some (i, t)) : i < 29 ∧ t.length ≤ s.length := by
 unfold xname at h
 cases hx : NK.findIdx? (fun p => decide (p.1 = s.takeWhile nmch)) with
 | none => rw [hx] at h; cases h
 | some j =>
  rw [hx] at h;injection h with h;injection h with h1 h2;rw [← h1, ← h2];exact ⟨(List.findIdx?_eq_some_iff_getElem.1 hx).1, (List.dropWhile_sublist _).length_le⟩
theorem Md {m : Nat} {e : List FV} : Bb (m + 1) e [] = some e := by unfold Bb; rw [if_pos rfl]
theorem PF {m : Nat} {e : List FV} {s : Str} (hs : s ≠ []) (h : xname s = none) : Bb (m + 1) e s = none := by unfold Bb; rw [if_neg hs, h]
theorem P7 {m i : Nat} {e : List FV} {s t : Str} (hs : s ≠ []) (h : xname s = some (i, t)) (h2 : Bq i t = none) : Bb (m + 1) e s = none := by unfold Bb; rw [if_neg hs, h]; show (match Bq i t with | none => none | some q => _) = _; rw [h2]
theorem PC {m i : Nat} {e : List FV} {s t : Str} {v : FV} (hs : s ≠ []) (h : xname s = some (i, t)) (h2 : Bq i t = some (v, [])) : Bb (m + 1) e s = some (e.set i v) := by unfold Bb; rw [if_neg hs, h]; show (match Bq i t with | none => none | some q => _) = _; rw [h2]; rfl
theorem Ql {m i : Nat} {e : List FV} {s t q : Str} {v : FV} (hs : s ≠ []) (h : xname s = some (i, t)) (h2 : Bq i t = some (v, q)) (hq : q ≠ []) (h3 : xsign 32 q = none) : Bb (m + 1) e s = none := by
 unfold Bb; rw [if_neg hs, h]; show (match Bq i t with | none => none | some q => _) = _; rw [h2]; show (if q = [] then _ else _) = _; rw [if_neg hq]; show (match xsign 32 q with | none => none | some r => _) = _; rw [h3]
theorem OG {m i : Nat} {e : List FV} {s t q r : Str} {v : FV} (hs : s ≠ []) (h : xname s = some (i, t)) (h2 : Bq i t = some (v, q)) (hq : q ≠ []) (h3 : xsign 32 q = some r) : Bb (m + 1) e s = Bb m (e.set i v) r := by
 rw [Bb, if_neg hs, h]; show (match Bq i t with | none => none | some q => _) = _; rw [h2]; show (if q = [] then _ else _) = _; rw [if_neg hq]; show (match xsign 32 q with | none => none | some r => _) = _; rw [h3]
end Ar
