/- The texts Rf1, Rf2, Rk0, Cx9, Cxb of this proof, one behind the other. -/
import Derived.Test.YteadlcncnhbmjaaGreatDoorMfa
import Derived.Test.YteadlcncnhbmjaaGreatDoorMat
import Derived.Test.YteadlcncnhbmjaaGreatDoorMaq
import Derived.Test.YteadlcncnhbmjaaGreatDoorMao
import Derived.Test.YteadlcncnhbmjaaGreatDoorMam
set_option linter.unusedSimpArgs false
set_option maxHeartbeats 16000000
set_option maxRecDepth 100000
set_option linter.unusedVariables false
/- The text Rf1. -/
namespace Ar
def Rm.num (r : Rm) : Nat := r.events.length + r.rows.length + r.waiting.length + r.state.length + r.receipts.length + r.typing.length
end Ar
namespace Go.Proofs.YteadlcncnhbmjaaGreatDoor
open Go.RowKit Go.Lib
set_option linter.unusedVariables false
set_option linter.unusedSimpArgs false
def RmX (w : World) (g : Nat) (r : Ar.Rm) : Prop := ∃ cE cR cW cH cS cC cT, RmO w g r cE cR cW cH cS cC cT
def RdA (g : Nat) (w : World) (x : Option Ar.Rm) (e : Ending) (w' : World) : Prop := ((∃ y, x = some y ∧ e = .returned (.bool true) ∧ RmX w' g y) ∨ (x = none ∧ e = .returned (.bool false))) ∧ Below g w w'
theorem RmX.lt {w : World} {g : Nat} {r : Ar.Rm} (h : RmX w g r) : g < w.heap.size := by obtain ⟨_, _, _, _, _, _, _, h⟩ := h; exact h.blk.lt
theorem RmX.below {w w' : World} {g : Nat} {r : Ar.Rm} (h : RmX w g r) (hb : Below w.heap.size w w') : RmX w' g r := by obtain ⟨_, _, _, _, _, _, _, h⟩ := h; exact ⟨_, _, _, _, _, _, _, h.below hb⟩
theorem slc_one {ok : Nat → Prop} {w : World} {c : Value} {n sz : Nat} {vs : List Value} (h : SlcOf ok w c n sz vs) : c.oneCell' = true := by obtain ⟨A, cap, rfl, _⟩ := h; rfl
theorem grown_low {w w' : World} {g : Nat} (h : w.grownBy w' (some g)) (hg : g < w.heap.size) : Below g w w' := (Ch.of_grown h (row := none)).low (Nat.le_of_lt hg) (fun k e => by cases e)
theorem rdRow_eq (s : List UInt8) (r : Ar.Rm) : Ar.rdRow s r = if rwOk s = true then some (Ar.upR r (rwX s)) else none := by
 unfold rwOk
 simp only [decide_eq_true_eq]
 rfl
theorem rdRow_rm (s : ByteArray) (g : Nat) (r : Ar.Rm) (w : World) (hs : s.size ≤ 100000) (hRd : Ready w) (hx : RmX w g r) (hg3 : 3 ≤ g) (hn : r.num ≤ 1000000) : Calls Tryz.prog 139 #[.string s, .pointer (some ⟨g, 0, none⟩)] w (RdA g w (Ar.rdRow s.data.toList r)) := by
 obtain ⟨cE, cR, cW, cH, cS, cC, cT, h⟩ := hx
 have hlt := h.blk.lt
 have hlen : r.rows.length ≤ 1000000 := by unfold Ar.Rm.num at hn; omega
 refine (readrow_any s g (.string (bstr r.id)) cE cR cW cH cS (.int .i64 r.next) cC cT r.rows.length _ w hs hRd h.blk hg3 h.row hlen).mono ?_
 rintro e w' ⟨rfl, v', h1, h2, h3, h4⟩
 refine ⟨?_, h3.low (Nat.le_of_lt hlt) (fun k e => by have := (h.row.lt k e).1; omega)⟩
 rw [rdRow_eq]
 cases hok : rwOk s.data.toList with
 | true =>
  rw [if_pos rfl]
  exact .inl ⟨_, rfl, rfl, _, _, _, _, _, _, _, h.rowStep h1 h2 h3 h4⟩
 | false =>
  rw [if_neg (by decide)]
  exact .inr ⟨rfl, rfl⟩
theorem rdEntry_eq (s : List UInt8) (r : Ar.Rm) : Ar.rdEntry s r = if enOk s = true then some (Ar.upS r (enX s)) else none := by
 unfold enOk
 simp only [decide_eq_true_eq]
 rfl
theorem rdEntry_rm (s : ByteArray) (g : Nat) (r : Ar.Rm) (w : World) (hs : s.size ≤ 100000) (hRd : Ready w) (hx : RmX w g r) (hg3 : 3 ≤ g) (hn : r.num ≤ 1000000) : Calls Tryz.prog 141 #[.string s, .pointer (some ⟨g, 0, none⟩)] w (RdA g w (Ar.rdEntry s.data.toList r)) := by
 obtain ⟨cE, cR, cW, cH, cS, cC, cT, h⟩ := hx
 have hlt := h.blk.lt
 have hlen : r.state.length ≤ 1000000 := by unfold Ar.Rm.num at hn; omega
 refine (readentry_any s g (.string (bstr r.id)) cE cR cW cH (.int .i64 r.next) cC cT cS r.state.length _ w hs hRd h.blk hg3 h.state hlen).mono ?_
 rintro e w' ⟨rfl, v', h1, h2, h3, h4⟩
 refine ⟨?_, h3.low (Nat.le_of_lt hlt) (fun k e => by have := (h.state.lt k e).1; omega)⟩
 rw [rdEntry_eq]
 cases hok : enOk s.data.toList with
 | true =>
  rw [if_pos rfl]
  exact .inl ⟨_, rfl, rfl, _, _, _, _, _, _, _, h.stateStep h1 h2 h3 h4⟩
 | false =>
  rw [if_neg (by decide)]
  exact .inr ⟨rfl, rfl⟩
theorem rdReceipt_eq (s : List UInt8) (r : Ar.Rm) : Ar.rdReceipt s r = if rcOk s = true then some (Ar.upC r (rcX s)) else none := by
 unfold rcOk
 simp only [decide_eq_true_eq]
 rfl
theorem rdReceipt_rm (s : ByteArray) (g : Nat) (r : Ar.Rm) (w : World) (hs : s.size ≤ 100000) (hRd : Ready w) (hx : RmX w g r) (hg3 : 3 ≤ g) (hn : r.num ≤ 1000000) : Calls Tryz.prog 142 #[.string s, .pointer (some ⟨g, 0, none⟩)] w (RdA g w (Ar.rdReceipt s.data.toList r)) := by
 obtain ⟨cE, cR, cW, cH, cS, cC, cT, h⟩ := hx
 have hlt := h.blk.lt
 have hlen : r.receipts.length ≤ 1000000 := by unfold Ar.Rm.num at hn; omega
 refine (readreceipt_any s g (.string (bstr r.id)) cE cR cW cH cS (.int .i64 r.next) cT cC r.receipts.length _ w hs hRd h.blk hg3 h.rcp hlen).mono ?_
 rintro e w' ⟨rfl, v', h1, h2, h3, h4⟩
 refine ⟨?_, h3.low (Nat.le_of_lt hlt) (fun k e => by have := (h.rcp.lt k e).1; omega)⟩
 rw [rdReceipt_eq]
 cases hok : rcOk s.data.toList with
 | true =>
  rw [if_pos rfl]
  exact .inl ⟨_, rfl, rfl, _, _, _, _, _, _, _, h.rcpStep h1 h2 h3 h4⟩
 | false =>
  rw [if_neg (by decide)]
  exact .inr ⟨rfl, rfl⟩
theorem rdTyping_eq (s : List UInt8) (r : Ar.Rm) : Ar.rdTyping s r = if tyOk s = true then some (Ar.upT r (tyX s)) else none := by
 unfold tyOk
 simp only [decide_eq_true_eq]
 rfl
theorem rdTyping_rm (s : ByteArray) (g : Nat) (r : Ar.Rm) (w : World) (hs : s.size ≤ 100000) (hRd : Ready w) (hx : RmX w g r) (hg3 : 3 ≤ g) (hn : r.num ≤ 1000000) : Calls Tryz.prog 143 #[.string s, .pointer (some ⟨g, 0, none⟩)] w (RdA g w (Ar.rdTyping s.data.toList r)) := by
 obtain ⟨cE, cR, cW, cH, cS, cC, cT, h⟩ := hx
 have hlt := h.blk.lt
 have hlen : r.typing.length ≤ 1000000 := by unfold Ar.Rm.num at hn; omega
 refine (readtyping_any s g (.string (bstr r.id)) cE cR cW cH cS (.int .i64 r.next) cC cT r.typing.length _ w hs hRd h.blk hg3 h.typ hlen).mono ?_
 rintro e w' ⟨rfl, v', h1, h2, h3, h4⟩
 refine ⟨?_, h3.low (Nat.le_of_lt hlt) (fun k e => by have := (h.typ.lt k e).1; omega)⟩
 rw [rdTyping_eq]
 cases hok : tyOk s.data.toList with
 | true =>
  rw [if_pos rfl]
  exact .inl ⟨_, rfl, rfl, _, _, _, _, _, _, _, h.typStep h1 h2 h3 h4⟩
 | false =>
  rw [if_neg (by decide)]
  exact .inr ⟨rfl, rfl⟩
theorem rdHeads_eq (s : List UInt8) (r : Ar.Rm) : Ar.rdHeads s r = if hsOk s = true then some { r with heads := (hsX s).1 } else none := by
 unfold hsOk
 simp only [decide_eq_true_eq]
 rfl
theorem rdHeads_rm (s : ByteArray) (g : Nat) (r : Ar.Rm) (w : World) (hs : s.size ≤ 100000) (hRd : Ready w) (hx : RmX w g r) (hg3 : 3 ≤ g) (hn : r.num ≤ 1000000) : Calls Tryz.prog 140 #[.string s, .pointer (some ⟨g, 0, none⟩)] w (RdA g w (Ar.rdHeads s.data.toList r)) := by
 obtain ⟨cE, cR, cW, cH, cS, cC, cT, h⟩ := hx
 have hlt := h.blk.lt
 refine (readheads_any s g (.string (bstr r.id)) cE cR cW cH cS (.int .i64 r.next) cC cT w hs hRd h.blk hg3 (slc_one h.heads)).mono ?_
 rintro e w' ⟨rfl, v', h1, h2, h3⟩
 refine ⟨?_, grown_low h3 hlt⟩
 rw [rdHeads_eq]
 cases hok : hsOk s.data.toList with
 | true =>
  rw [if_pos rfl]
  exact .inl ⟨_, rfl, rfl, _, _, _, _, _, _, _, h.headsStep h1 (Ch.of_grown h3) h2⟩
 | false =>
  rw [if_neg (by decide)]
  exact .inr ⟨rfl, rfl⟩
theorem rdHead_eq (s : List UInt8) (r : Ar.Rm) : Ar.rdHead s r = if hdOk s r.next = true then some { r with id := (hdX s).1, next := (hdZ s r.next).1 } else none := by
 unfold hdOk
 simp only [decide_eq_true_eq]
 rfl
theorem rdHead_rm (s : ByteArray) (g : Nat) (r : Ar.Rm) (w : World) (hs : s.size ≤ 100000) (hRd : Ready w) (hx : RmX w g r) (hg3 : 3 ≤ g) (hn : r.num ≤ 1000000) (hi : Ar.inInt r.next) : Calls Tryz.prog 76 #[.string s, .pointer (some ⟨g, 0, none⟩)] w (RdA g w (Ar.rdHead s.data.toList r)) := by
 obtain ⟨cE, cR, cW, cH, cS, cC, cT, h⟩ := hx
 have hlt := h.blk.lt
 refine (readhead_any s g (bstr r.id) cE cR cW cH cS r.next cC cT w hs hRd h.blk hg3 hi).mono ?_
 rintro e w' ⟨rfl, h1, h3⟩
 refine ⟨?_, grown_low h3 hlt⟩
 rw [rdHead_eq]
 cases hok : hdOk s.data.toList r.next with
 | true =>
  rw [if_pos rfl]
  exact .inl ⟨_, rfl, rfl, _, _, _, _, _, _, _, h.head h3 h1⟩
 | false =>
  rw [if_neg (by decide)]
  exact .inr ⟨rfl, rfl⟩
end Go.Proofs.YteadlcncnhbmjaaGreatDoor
/- The text Rf2. -/
namespace Go.Proofs.YteadlcncnhbmjaaGreatDoor
open Go.RowKit Go.Lib
set_option linter.unusedVariables false
set_option linter.unusedSimpArgs false
def RlA (g : Nat) (w : World) (x : Nat × Ar.Rm) (e : Ending) (w' : World) : Prop := (e = .returned (.int .i64 (x.1 : Int)) ∧ (x.1 ≠ 0 → RmX w' g x.2)) ∧ Below g w w'
theorem RdA.undrew {g q : Nat} {w : World} {x : Option Ar.Rm} {e : Ending} {w' : World} (h : RdA g (w.drewN q) x e w') : RdA g w x e w' := ⟨h.1, ⟨h.2.os, h.2.tape, h.2.output, h.2.size, h.2.block⟩⟩
theorem rdline_row (s : ByteArray) (g : Nat) (r : Ar.Rm) (w : World) (hs : s.size ≤ 100000) (hRd : Ready w) (hx : RmX w g r) (hg3 : 3 ≤ g) (hn : r.num ≤ 1000000) (hw : (Lib.cut s.data.toList [32]).1 = [114, 111, 119]) : Calls Tryz.prog 77 #[.string s, .pointer (some ⟨g, 0, none⟩)] w (RlA g w (Ar.rdLine s.data.toList r)) := by
 have HL : Hid (Ar.rdLine s.data.toList r = Ar.retK r 3 (Ar.rdRow s.data.toList r)) := hid (by rw [Ar.rdLine_eq, hw, if_neg (by decide), if_neg (by decide), if_pos rfl])
 obtain ⟨mx, hmx⟩ := hRd.1
 have hcut := Tryz.strings_Cut s ⟨#[32]⟩ mx w (by omega) hmx
 rw [show (⟨#[32]⟩ : ByteArray).data.toList = [32] from rfl, hw] at hcut
 rw [show (⟨[114, 111, 119].toArray⟩ : ByteArray) = bstr [114, 111, 119] from rfl] at hcut
 have HCUT := hid hcut
 have h1 : ((bstr [114, 111, 119]).toList == [101, 118, 101, 110, 116]) = false := by rw [str_cmp]; rfl
 have h2 : ((bstr [114, 111, 119]).toList == [119, 97, 105, 116]) = false := by rw [str_cmp]; rfl
 have h3 : ((bstr [114, 111, 119]).toList == [114, 111, 119]) = true := by rw [str_cmp]; rfl
 have HQ := hid (fun q => (rdRow_rm s g r (w.drewN q) hs hRd (hx.below (below_drewN (Below.refl _ _) q)) hg3 hn).mono fun e w' h => h.undrew)
 have HT : Hid (∀ W, Calls Tryz.prog 75 #[.bool true] W fun e w' => e = .returned (.int .i64 1) ∧ W = w') := hid (fun W => one_any true W)
 have HF : Hid (∀ W, Calls Tryz.prog 75 #[.bool false] W fun e w' => e = .returned (.int .i64 0) ∧ W = w') := hid (fun W => one_any false W)
 rw [HL.out]
 clear hcut hmx hw hRd hx HL
 generalize bstr [114, 111, 119] = SW at *
 generalize (Lib.cut s.data.toList [32]).2.1.toArray = S2 at *
 generalize (Lib.cut s.data.toList [32]).2.2 = B2 at *
 go_enter Tryz.func77, Tryz.ntmps77
 go_wp2_with fail
 refine HCUT.out.mono ?_
 rintro e w2 ⟨rfl, q2, rfl⟩
 go_wp2_with fail
 refine (HQ.out q2).mono ?_
 rintro e w3 ⟨(⟨y, hy, rfl, hr⟩ | ⟨hy, rfl⟩), hb⟩
 ·have HY : Hid (RlA g w (Ar.retK r 3 (Ar.rdRow s.data.toList r)) (.returned (.int .i64 3)) w3) := hid (by rw [hy]; exact ⟨⟨rfl, fun _ => hr⟩, hb⟩)
  clear hy hr hb
  go_wp2_with fail
  refine (HT.out _).mono ?_
  rintro e w4 ⟨rfl, rfl⟩
  go_wp2_with fail
  go_ret
  exact HY.out
 ·have HY : Hid (RlA g w (Ar.retK r 3 (Ar.rdRow s.data.toList r)) (.returned (.int .i64 0)) w3) := hid (by rw [hy]; exact ⟨⟨rfl, fun h => absurd rfl h⟩, hb⟩)
  clear hy hb
  go_wp2_with fail
  refine (HF.out _).mono ?_
  rintro e w4 ⟨rfl, rfl⟩
  go_wp2_with fail
  go_ret
  exact HY.out
theorem rdline_heads (s : ByteArray) (g : Nat) (r : Ar.Rm) (w : World) (hs : s.size ≤ 100000) (hRd : Ready w) (hx : RmX w g r) (hg3 : 3 ≤ g) (hn : r.num ≤ 1000000) (hw : (Lib.cut s.data.toList [32]).1 = [104, 101, 97, 100, 115]) : Calls Tryz.prog 77 #[.string s, .pointer (some ⟨g, 0, none⟩)] w (RlA g w (Ar.rdLine s.data.toList r)) := by
 have HL : Hid (Ar.rdLine s.data.toList r = Ar.retK r 5 (Ar.rdHeads s.data.toList r)) := hid (by rw [Ar.rdLine_eq, hw, if_neg (by decide), if_neg (by decide), if_neg (by decide), if_pos rfl])
 obtain ⟨mx, hmx⟩ := hRd.1
 have hcut := Tryz.strings_Cut s ⟨#[32]⟩ mx w (by omega) hmx
 rw [show (⟨#[32]⟩ : ByteArray).data.toList = [32] from rfl, hw] at hcut
 rw [show (⟨[104, 101, 97, 100, 115].toArray⟩ : ByteArray) = bstr [104, 101, 97, 100, 115] from rfl] at hcut
 have HCUT := hid hcut
 have h1 : ((bstr [104, 101, 97, 100, 115]).toList == [101, 118, 101, 110, 116]) = false := by rw [str_cmp]; rfl
 have h2 : ((bstr [104, 101, 97, 100, 115]).toList == [119, 97, 105, 116]) = false := by rw [str_cmp]; rfl
 have h3 : ((bstr [104, 101, 97, 100, 115]).toList == [114, 111, 119]) = false := by rw [str_cmp]; rfl
 have h4 : ((bstr [104, 101, 97, 100, 115]).toList == [104, 101, 97, 100, 115]) = true := by rw [str_cmp]; rfl
 have HQ := hid (fun q => (rdHeads_rm s g r (w.drewN q) hs hRd (hx.below (below_drewN (Below.refl _ _) q)) hg3 hn).mono fun e w' h => h.undrew)
 have HT : Hid (∀ W, Calls Tryz.prog 75 #[.bool true] W fun e w' => e = .returned (.int .i64 1) ∧ W = w') := hid (fun W => one_any true W)
 have HF : Hid (∀ W, Calls Tryz.prog 75 #[.bool false] W fun e w' => e = .returned (.int .i64 0) ∧ W = w') := hid (fun W => one_any false W)
 rw [HL.out]
 clear hcut hmx hw hRd hx HL
 generalize bstr [104, 101, 97, 100, 115] = SW at *
 generalize (Lib.cut s.data.toList [32]).2.1.toArray = S2 at *
 generalize (Lib.cut s.data.toList [32]).2.2 = B2 at *
 go_enter Tryz.func77, Tryz.ntmps77
 go_wp2_with fail
 refine HCUT.out.mono ?_
 rintro e w2 ⟨rfl, q2, rfl⟩
 go_wp2_with fail
 refine (HQ.out q2).mono ?_
 rintro e w3 ⟨(⟨y, hy, rfl, hr⟩ | ⟨hy, rfl⟩), hb⟩
 ·have HY : Hid (RlA g w (Ar.retK r 5 (Ar.rdHeads s.data.toList r)) (.returned (.int .i64 5)) w3) := hid (by rw [hy]; exact ⟨⟨rfl, fun _ => hr⟩, hb⟩)
  clear hy hr hb
  go_wp2_with fail
  refine (HT.out _).mono ?_
  rintro e w4 ⟨rfl, rfl⟩
  go_wp2_with fail
  go_ret
  exact HY.out
 ·have HY : Hid (RlA g w (Ar.retK r 5 (Ar.rdHeads s.data.toList r)) (.returned (.int .i64 0)) w3) := hid (by rw [hy]; exact ⟨⟨rfl, fun h => absurd rfl h⟩, hb⟩)
  clear hy hb
  go_wp2_with fail
  refine (HF.out _).mono ?_
  rintro e w4 ⟨rfl, rfl⟩
  go_wp2_with fail
  go_ret
  exact HY.out
theorem rdline_entry (s : ByteArray) (g : Nat) (r : Ar.Rm) (w : World) (hs : s.size ≤ 100000) (hRd : Ready w) (hx : RmX w g r) (hg3 : 3 ≤ g) (hn : r.num ≤ 1000000) (hw : (Lib.cut s.data.toList [32]).1 = [101, 110, 116, 114, 121]) : Calls Tryz.prog 77 #[.string s, .pointer (some ⟨g, 0, none⟩)] w (RlA g w (Ar.rdLine s.data.toList r)) := by
 have HL : Hid (Ar.rdLine s.data.toList r = Ar.retK r 6 (Ar.rdEntry s.data.toList r)) := hid (by rw [Ar.rdLine_eq, hw, if_neg (by decide), if_neg (by decide), if_neg (by decide), if_neg (by decide), if_pos rfl])
 obtain ⟨mx, hmx⟩ := hRd.1
 have hcut := Tryz.strings_Cut s ⟨#[32]⟩ mx w (by omega) hmx
 rw [show (⟨#[32]⟩ : ByteArray).data.toList = [32] from rfl, hw] at hcut
 rw [show (⟨[101, 110, 116, 114, 121].toArray⟩ : ByteArray) = bstr [101, 110, 116, 114, 121] from rfl] at hcut
 have HCUT := hid hcut
 have h1 : ((bstr [101, 110, 116, 114, 121]).toList == [101, 118, 101, 110, 116]) = false := by rw [str_cmp]; rfl
 have h2 : ((bstr [101, 110, 116, 114, 121]).toList == [119, 97, 105, 116]) = false := by rw [str_cmp]; rfl
 have h3 : ((bstr [101, 110, 116, 114, 121]).toList == [114, 111, 119]) = false := by rw [str_cmp]; rfl
 have h4 : ((bstr [101, 110, 116, 114, 121]).toList == [104, 101, 97, 100, 115]) = false := by rw [str_cmp]; rfl
 have h5 : ((bstr [101, 110, 116, 114, 121]).toList == [101, 110, 116, 114, 121]) = true := by rw [str_cmp]; rfl
 have HQ := hid (fun q => (rdEntry_rm s g r (w.drewN q) hs hRd (hx.below (below_drewN (Below.refl _ _) q)) hg3 hn).mono fun e w' h => h.undrew)
 have HT : Hid (∀ W, Calls Tryz.prog 75 #[.bool true] W fun e w' => e = .returned (.int .i64 1) ∧ W = w') := hid (fun W => one_any true W)
 have HF : Hid (∀ W, Calls Tryz.prog 75 #[.bool false] W fun e w' => e = .returned (.int .i64 0) ∧ W = w') := hid (fun W => one_any false W)
 rw [HL.out]
 clear hcut hmx hw hRd hx HL
 generalize bstr [101, 110, 116, 114, 121] = SW at *
 generalize (Lib.cut s.data.toList [32]).2.1.toArray = S2 at *
 generalize (Lib.cut s.data.toList [32]).2.2 = B2 at *
 go_enter Tryz.func77, Tryz.ntmps77
 go_wp2_with fail
 refine HCUT.out.mono ?_
 rintro e w2 ⟨rfl, q2, rfl⟩
 go_wp2_with fail
 refine (HQ.out q2).mono ?_
 rintro e w3 ⟨(⟨y, hy, rfl, hr⟩ | ⟨hy, rfl⟩), hb⟩
 ·have HY : Hid (RlA g w (Ar.retK r 6 (Ar.rdEntry s.data.toList r)) (.returned (.int .i64 6)) w3) := hid (by rw [hy]; exact ⟨⟨rfl, fun _ => hr⟩, hb⟩)
  clear hy hr hb
  go_wp2_with fail
  refine (HT.out _).mono ?_
  rintro e w4 ⟨rfl, rfl⟩
  go_wp2_with fail
  go_ret
  exact HY.out
 ·have HY : Hid (RlA g w (Ar.retK r 6 (Ar.rdEntry s.data.toList r)) (.returned (.int .i64 0)) w3) := hid (by rw [hy]; exact ⟨⟨rfl, fun h => absurd rfl h⟩, hb⟩)
  clear hy hb
  go_wp2_with fail
  refine (HF.out _).mono ?_
  rintro e w4 ⟨rfl, rfl⟩
  go_wp2_with fail
  go_ret
  exact HY.out
theorem rdline_receipt (s : ByteArray) (g : Nat) (r : Ar.Rm) (w : World) (hs : s.size ≤ 100000) (hRd : Ready w) (hx : RmX w g r) (hg3 : 3 ≤ g) (hn : r.num ≤ 1000000) (hw : (Lib.cut s.data.toList [32]).1 = [114, 101, 99, 101, 105, 112, 116]) : Calls Tryz.prog 77 #[.string s, .pointer (some ⟨g, 0, none⟩)] w (RlA g w (Ar.rdLine s.data.toList r)) := by
 have HL : Hid (Ar.rdLine s.data.toList r = Ar.retK r 7 (Ar.rdReceipt s.data.toList r)) := hid (by rw [Ar.rdLine_eq, hw, if_neg (by decide), if_neg (by decide), if_neg (by decide), if_neg (by decide), if_neg (by decide), if_pos rfl])
 obtain ⟨mx, hmx⟩ := hRd.1
 have hcut := Tryz.strings_Cut s ⟨#[32]⟩ mx w (by omega) hmx
 rw [show (⟨#[32]⟩ : ByteArray).data.toList = [32] from rfl, hw] at hcut
 rw [show (⟨[114, 101, 99, 101, 105, 112, 116].toArray⟩ : ByteArray) = bstr [114, 101, 99, 101, 105, 112, 116] from rfl] at hcut
 have HCUT := hid hcut
 have h1 : ((bstr [114, 101, 99, 101, 105, 112, 116]).toList == [101, 118, 101, 110, 116]) = false := by rw [str_cmp]; rfl
 have h2 : ((bstr [114, 101, 99, 101, 105, 112, 116]).toList == [119, 97, 105, 116]) = false := by rw [str_cmp]; rfl
 have h3 : ((bstr [114, 101, 99, 101, 105, 112, 116]).toList == [114, 111, 119]) = false := by rw [str_cmp]; rfl
 have h4 : ((bstr [114, 101, 99, 101, 105, 112, 116]).toList == [104, 101, 97, 100, 115]) = false := by rw [str_cmp]; rfl
 have h5 : ((bstr [114, 101, 99, 101, 105, 112, 116]).toList == [101, 110, 116, 114, 121]) = false := by rw [str_cmp]; rfl
 have h6 : ((bstr [114, 101, 99, 101, 105, 112, 116]).toList == [114, 101, 99, 101, 105, 112, 116]) = true := by rw [str_cmp]; rfl
 have HQ := hid (fun q => (rdReceipt_rm s g r (w.drewN q) hs hRd (hx.below (below_drewN (Below.refl _ _) q)) hg3 hn).mono fun e w' h => h.undrew)
 have HT : Hid (∀ W, Calls Tryz.prog 75 #[.bool true] W fun e w' => e = .returned (.int .i64 1) ∧ W = w') := hid (fun W => one_any true W)
 have HF : Hid (∀ W, Calls Tryz.prog 75 #[.bool false] W fun e w' => e = .returned (.int .i64 0) ∧ W = w') := hid (fun W => one_any false W)
 rw [HL.out]
 clear hcut hmx hw hRd hx HL
 generalize bstr [114, 101, 99, 101, 105, 112, 116] = SW at *
 generalize (Lib.cut s.data.toList [32]).2.1.toArray = S2 at *
 generalize (Lib.cut s.data.toList [32]).2.2 = B2 at *
 go_enter Tryz.func77, Tryz.ntmps77
 go_wp2_with fail
 refine HCUT.out.mono ?_
 rintro e w2 ⟨rfl, q2, rfl⟩
 go_wp2_with fail
 refine (HQ.out q2).mono ?_
 rintro e w3 ⟨(⟨y, hy, rfl, hr⟩ | ⟨hy, rfl⟩), hb⟩
 ·have HY : Hid (RlA g w (Ar.retK r 7 (Ar.rdReceipt s.data.toList r)) (.returned (.int .i64 7)) w3) := hid (by rw [hy]; exact ⟨⟨rfl, fun _ => hr⟩, hb⟩)
  clear hy hr hb
  go_wp2_with fail
  refine (HT.out _).mono ?_
  rintro e w4 ⟨rfl, rfl⟩
  go_wp2_with fail
  go_ret
  exact HY.out
 ·have HY : Hid (RlA g w (Ar.retK r 7 (Ar.rdReceipt s.data.toList r)) (.returned (.int .i64 0)) w3) := hid (by rw [hy]; exact ⟨⟨rfl, fun h => absurd rfl h⟩, hb⟩)
  clear hy hb
  go_wp2_with fail
  refine (HF.out _).mono ?_
  rintro e w4 ⟨rfl, rfl⟩
  go_wp2_with fail
  go_ret
  exact HY.out
theorem rdline_typing (s : ByteArray) (g : Nat) (r : Ar.Rm) (w : World) (hs : s.size ≤ 100000) (hRd : Ready w) (hx : RmX w g r) (hg3 : 3 ≤ g) (hn : r.num ≤ 1000000) (hw : (Lib.cut s.data.toList [32]).1 = [116, 121, 112, 105, 110, 103]) : Calls Tryz.prog 77 #[.string s, .pointer (some ⟨g, 0, none⟩)] w (RlA g w (Ar.rdLine s.data.toList r)) := by
 have HL : Hid (Ar.rdLine s.data.toList r = Ar.retK r 8 (Ar.rdTyping s.data.toList r)) := hid (by rw [Ar.rdLine_eq, hw, if_neg (by decide), if_neg (by decide), if_neg (by decide), if_neg (by decide), if_neg (by decide), if_neg (by decide), if_pos rfl])
 obtain ⟨mx, hmx⟩ := hRd.1
 have hcut := Tryz.strings_Cut s ⟨#[32]⟩ mx w (by omega) hmx
 rw [show (⟨#[32]⟩ : ByteArray).data.toList = [32] from rfl, hw] at hcut
 rw [show (⟨[116, 121, 112, 105, 110, 103].toArray⟩ : ByteArray) = bstr [116, 121, 112, 105, 110, 103] from rfl] at hcut
 have HCUT := hid hcut
 have h1 : ((bstr [116, 121, 112, 105, 110, 103]).toList == [101, 118, 101, 110, 116]) = false := by rw [str_cmp]; rfl
 have h2 : ((bstr [116, 121, 112, 105, 110, 103]).toList == [119, 97, 105, 116]) = false := by rw [str_cmp]; rfl
 have h3 : ((bstr [116, 121, 112, 105, 110, 103]).toList == [114, 111, 119]) = false := by rw [str_cmp]; rfl
 have h4 : ((bstr [116, 121, 112, 105, 110, 103]).toList == [104, 101, 97, 100, 115]) = false := by rw [str_cmp]; rfl
 have h5 : ((bstr [116, 121, 112, 105, 110, 103]).toList == [101, 110, 116, 114, 121]) = false := by rw [str_cmp]; rfl
 have h6 : ((bstr [116, 121, 112, 105, 110, 103]).toList == [114, 101, 99, 101, 105, 112, 116]) = false := by rw [str_cmp]; rfl
 have h7 : ((bstr [116, 121, 112, 105, 110, 103]).toList == [116, 121, 112, 105, 110, 103]) = true := by rw [str_cmp]; rfl
 have HQ := hid (fun q => (rdTyping_rm s g r (w.drewN q) hs hRd (hx.below (below_drewN (Below.refl _ _) q)) hg3 hn).mono fun e w' h => h.undrew)
 have HT : Hid (∀ W, Calls Tryz.prog 75 #[.bool true] W fun e w' => e = .returned (.int .i64 1) ∧ W = w') := hid (fun W => one_any true W)
 have HF : Hid (∀ W, Calls Tryz.prog 75 #[.bool false] W fun e w' => e = .returned (.int .i64 0) ∧ W = w') := hid (fun W => one_any false W)
 rw [HL.out]
 clear hcut hmx hw hRd hx HL
 generalize bstr [116, 121, 112, 105, 110, 103] = SW at *
 generalize (Lib.cut s.data.toList [32]).2.1.toArray = S2 at *
 generalize (Lib.cut s.data.toList [32]).2.2 = B2 at *
 go_enter Tryz.func77, Tryz.ntmps77
 go_wp2_with fail
 refine HCUT.out.mono ?_
 rintro e w2 ⟨rfl, q2, rfl⟩
 go_wp2_with fail
 refine (HQ.out q2).mono ?_
 rintro e w3 ⟨(⟨y, hy, rfl, hr⟩ | ⟨hy, rfl⟩), hb⟩
 ·have HY : Hid (RlA g w (Ar.retK r 8 (Ar.rdTyping s.data.toList r)) (.returned (.int .i64 8)) w3) := hid (by rw [hy]; exact ⟨⟨rfl, fun _ => hr⟩, hb⟩)
  clear hy hr hb
  go_wp2_with fail
  refine (HT.out _).mono ?_
  rintro e w4 ⟨rfl, rfl⟩
  go_wp2_with fail
  go_ret
  exact HY.out
 ·have HY : Hid (RlA g w (Ar.retK r 8 (Ar.rdTyping s.data.toList r)) (.returned (.int .i64 0)) w3) := hid (by rw [hy]; exact ⟨⟨rfl, fun h => absurd rfl h⟩, hb⟩)
  clear hy hb
  go_wp2_with fail
  refine (HF.out _).mono ?_
  rintro e w4 ⟨rfl, rfl⟩
  go_wp2_with fail
  go_ret
  exact HY.out
theorem rdline_none (s : ByteArray) (g : Nat) (r : Ar.Rm) (w : World) (hs : s.size ≤ 100000) (hRd : Ready w) (hx : RmX w g r) (hg3 : 3 ≤ g) (hn : r.num ≤ 1000000) (h1' : (Lib.cut s.data.toList [32]).1 ≠ [101, 118, 101, 110, 116]) (h2' : (Lib.cut s.data.toList [32]).1 ≠ [119, 97, 105, 116]) (h3' : (Lib.cut s.data.toList [32]).1 ≠ [114, 111, 119]) (h4' : (Lib.cut s.data.toList [32]).1 ≠ [104, 101, 97, 100, 115]) (h5' : (Lib.cut s.data.toList [32]).1 ≠ [101, 110, 116, 114, 121]) (h6' : (Lib.cut s.data.toList [32]).1 ≠ [114, 101, 99, 101, 105, 112, 116]) (h7' : (Lib.cut s.data.toList [32]).1 ≠ [116, 121, 112, 105, 110, 103]) : Calls Tryz.prog 77 #[.string s, .pointer (some ⟨g, 0, none⟩)] w (RlA g w (Ar.rdLine s.data.toList r)) := by
 have HL : Hid (Ar.rdLine s.data.toList r = (0, r)) := hid (by rw [Ar.rdLine_eq, if_neg (show ¬ ((Lib.cut s.data.toList [32]).1 = Ar.evN) from h1'), if_neg (show ¬ ((Lib.cut s.data.toList [32]).1 = Ar.waitN) from h2'), if_neg h3', if_neg h4', if_neg h5', if_neg h6', if_neg h7'])
 obtain ⟨mx, hmx⟩ := hRd.1
 have hcut := Tryz.strings_Cut s ⟨#[32]⟩ mx w (by omega) hmx
 rw [show (⟨#[32]⟩ : ByteArray).data.toList = [32] from rfl] at hcut
 rw [HL.out]
 clear HL
 generalize (Lib.cut s.data.toList [32]).1 = W at *
 rw [show (⟨W.toArray⟩ : ByteArray) = bstr W from rfl] at hcut
 have HCUT := hid hcut
 have h1 : ((bstr W).toList == [101, 118, 101, 110, 116]) = false := by rw [str_cmp]; exact beq_eq_false_iff_ne.2 h1'
 have h2 : ((bstr W).toList == [119, 97, 105, 116]) = false := by rw [str_cmp]; exact beq_eq_false_iff_ne.2 h2'
 have h3 : ((bstr W).toList == [114, 111, 119]) = false := by rw [str_cmp]; exact beq_eq_false_iff_ne.2 h3'
 have h4 : ((bstr W).toList == [104, 101, 97, 100, 115]) = false := by rw [str_cmp]; exact beq_eq_false_iff_ne.2 h4'
 have h5 : ((bstr W).toList == [101, 110, 116, 114, 121]) = false := by rw [str_cmp]; exact beq_eq_false_iff_ne.2 h5'
 have h6 : ((bstr W).toList == [114, 101, 99, 101, 105, 112, 116]) = false := by rw [str_cmp]; exact beq_eq_false_iff_ne.2 h6'
 have h7 : ((bstr W).toList == [116, 121, 112, 105, 110, 103]) = false := by rw [str_cmp]; exact beq_eq_false_iff_ne.2 h7'
 have HG := hid hx.lt
 clear hcut hmx hRd hx h1' h2' h3' h4' h5' h6' h7'
 generalize bstr W = SW at *
 generalize (Lib.cut s.data.toList [32]).2.1.toArray = S2 at *
 generalize (Lib.cut s.data.toList [32]).2.2 = B2 at *
 go_enter Tryz.func77, Tryz.ntmps77
 go_wp2_with fail
 refine HCUT.out.mono ?_
 rintro e w2 ⟨rfl, q2, rfl⟩
 go_wp2_with fail
 go_ret
 exact ⟨⟨rfl, fun h => absurd rfl h⟩, below_drewN (Below.refl _ _) q2⟩
end Go.Proofs.YteadlcncnhbmjaaGreatDoor
/- The text Rk0. -/
namespace Go.Proofs.YteadlcncnhbmjaaGreatDoor
open Go.RowKit Go.Lib
section
variable {P : Program} {ops : Array Oper} {rest : List Oper} {o : Oper} {a : Act} {w : World} {Q : Exit → Act → World → Prop}
theorem wpList_store_rowq (hgd : o.guard = none) (ty : TypeId) (x y : Operand) (ho : o.op = .store ty x y)
  (g : Nat) (cells : Array Value) (hx : a.eval x = .pointer (some ⟨g, 0, none⟩)) (hy : a.eval y = .agg cells)
  (t : TypeId) (old : Array Value) (hg : Blk w g t old) (hi : (P.info? ty).map (·.size) = some cells.size)
  (hold : old.size = cells.size) (h1 : cells.all (·.oneCell') = true)
  (h : ∀ w', Blk w' g t cells → w'.heap.size = w.heap.size → (∀ B, B ≤ g → Below B w w') → (∀ k, k ≠ g → w'.heap[k]? = w.heap[k]?) → wpList P ops Q rest (a.put o.dst undef) w') : wpList P ops Q (o :: rest) a w :=
 wpList_store_row hgd ty x y ho g cells hx hy t old hg hi hold h1
  (h _ (setRow_heap _ _ _ _ _ _ hg) (setRow_size _ _ _) (fun _ hB => below_setRow (Below.refl _ _) hB _) (fun k hk => setRow_other _ _ _ _ hk))
end
end Go.Proofs.YteadlcncnhbmjaaGreatDoor
/- The text Cx9. -/
namespace Ar
theorem xnum_inv {s t : Str} {n : Int} (h : xnum s = some (n, t)) : s = itoa n ++ t := by
 unfold xnum at h
 cases hr : rint (s.takeWhile numch) with
 | none => rw [hr] at h; cases h
 | some m =>
  rw [hr] at h
  injection h with h
  injection h with h1 h2
  rw [← h1, ← h2, ← (rint_some hr).1, List.takeWhile_append_dropWhile]
theorem xsign_inv {c : UInt8} {s t : Str} (h : xsign c s = some t) : s = c :: t := by
 cases s with
 | nil => cases h
 | cons d r =>
  change (if d = c then some r else none) = some t at h
  split at h
  ·rename_i e; injection h with h; rw [h, e]
  ·cases h
theorem xsign_lenq {c : UInt8} {s t : Str} (h : xsign c s = some t) : t.length + 1 = s.length := by rw [xsign_inv h]; rfl
theorem xusr_inv {s t : Str} {x : Str × Int} (h : xusr s = some (x, t)) : s = usrT x ++ t := by
 unfold xusr at h
 cases h1 : unquote s with
 | none => rw [h1] at h; cases h
 | some p =>
  rw [h1] at h
  simp only [Option.bind_some] at h
  cases h2 : xsign 58 p.2 with
  | none => rw [h2] at h; cases h
  | some r =>
   rw [h2] at h
   simp only [Option.bind_some] at h
   cases h3 : xnum r with
   | none => rw [h3] at h; cases h
   | some n =>
    rw [h3] at h
    injection h with h
    injection h with h4 h5
    rw [← h4, ← h5, unquote_inv h1, xsign_inv h2, xnum_inv h3]
    unfold usrT
    simp
theorem xknd_inv {s t : Str} {x : Int × Int} (h : xknd s = some (x, t)) : s = kndT x ++ t := by
 unfold xknd at h
 cases h1 : xnum s with
 | none => rw [h1] at h; cases h
 | some p =>
  rw [h1] at h
  simp only [Option.bind_some] at h
  cases h2 : xsign 58 p.2 with
  | none => rw [h2] at h; cases h
  | some r =>
   rw [h2] at h
   simp only [Option.bind_some] at h
   cases h3 : xnum r with
   | none => rw [h3] at h; cases h
   | some n =>
    rw [h3] at h
    injection h with h
    injection h with h4 h5
    rw [← h4, ← h5, xnum_inv h1, xsign_inv h2, xnum_inv h3]
    unfold kndT
    simp
theorem xlistF_inv {α : Type} {one : Str → Option (α × Str)} {tx : α → Str} (h1 : ∀ s x t, one s = some (x, t) → s = tx x ++ t) :
  ∀ (n : Nat) (s t : Str) (l : List α), xlistF one n s = some (l, t) → s = join [44] (l.map tx) ++ t ∧ l ≠ [] ∧ l.length ≤ s.length + 1 ∧ ∀ x ∈ l, (tx x).length ≤ s.length
 | 0, s, t, l, h => by cases h
 | n + 1, s, t, l, h => by
  unfold xlistF at h
  cases ho : one s with
  | none => rw [ho] at h; cases h
  | some p =>
   rw [ho] at h
   simp only [Option.bind_some] at h
   have hp := h1 s p.1 p.2 ho
   have hpl : s.length = (tx p.1).length + p.2.length := by rw [hp, List.length_append]
   split at h
   ·injection h with h
    injection h with h2 h3
    rw [← h2, ← h3]
    refine ⟨hp, by simp, by simp, fun x hx => ?_⟩
    rw [List.mem_singleton.1 hx]
    omega
   ·rename_i r hr
    have hs := xsign_inv hr
    have hsl : p.2.length = r.length + 1 := by rw [hs]; rfl
    cases hq : xlistF one n r with
    | none => rw [hq] at h; cases h
    | some q =>
     rw [hq] at h
     injection h with h
     injection h with h2 h3
     obtain ⟨i1, i2, i3, i4⟩ := xlistF_inv h1 n r q.2 q.1 hq
     rw [← h2, ← h3]
     refine ⟨?_, by simp, by rw [List.length_cons]; omega, fun x hx => ?_⟩
     ·cases hql : q.1 with
      | nil => exact absurd hql i2
      | cons y l =>
       rw [hql] at i1
       have hp2 := hp
       rw [hs, i1] at hp2
       rw [hp2]
       simp [List.map_cons, join, List.append_assoc]
     ·rcases List.mem_cons.1 hx with rfl | hx
      ·omega
      ·have := i4 x hx; omega
theorem quote_longer (s : Str) : s.length ≤ (quote s).length := by
 have : ∀ l : Str, l.length ≤ (l.flatMap esc).length := by
  intro l
  induction l with
  | nil => exact Nat.le_refl _
  | cons c l ih =>
   rw [List.flatMap_cons, List.length_append, List.length_cons]
   have := (esc_len c).1
   omega
 have := this s
 show s.length ≤ (34 :: (s.flatMap esc ++ [34])).length
 rw [List.length_cons, List.length_append]
 omega
theorem usrT_longer (p : Str × Int) : p.1.length ≤ (usrT p).length := by
 have := quote_longer p.1
 unfold usrT
 rw [List.length_append]
 omega
theorem xreadK_fine {k : FK} {s t : Str} {v : FV} (n : Nat) (hs : s.length ≤ n) (hn : n ≤ 100000) (h : xreadK k s = some (v, t)) : v.Fine n := by
 have hok := (xreadK_fits k h).2
 have key : ∀ T : Str, ∀ u : Str, s = T ++ u → T.length ≤ n := fun T u e => by rw [e, List.length_append] at hs; omega
 cases k with
 | flg => injection h with h; injection h with h1 h2; rw [← h1]; exact ⟨⟨trivial, Nat.zero_le _, trivial⟩, Nat.zero_le _⟩
 | num =>
  have h : (xnum s).map _ = _ := h
  cases hx : xnum s with
  | none => rw [hx] at h; cases h
  | some p =>
   rw [hx] at h; injection h with h; injection h with h1 h2; rw [← h1] at hok ⊢
   have hl := key _ _ (xnum_inv hx)
   have ht : (FV.num p.1).text.length ≤ n + 4 := by
    show (if p.1 = 0 then [] else itoa p.1).length ≤ _
    split
    ·exact Nat.zero_le _
    ·omega
   exact ⟨⟨hok, by omega, trivial⟩, ht⟩
 | txt =>
  have h : (unquote s).map _ = _ := h
  cases hx : unquote s with
  | none => rw [hx] at h; cases h
  | some p =>
   rw [hx] at h; injection h with h; injection h with h1 h2; rw [← h1] at hok ⊢
   have hl := key _ _ (unquote_inv hx)
   have hq := quote_longer p.1
   have ht : (FV.txt p.1).text.length ≤ n + 4 := by
    show (if p.1 = [] then [] else quote p.1).length ≤ _
    split
    ·exact Nat.zero_le _
    ·omega
   exact ⟨⟨hok, by omega, by show p.1.length ≤ _; omega⟩, ht⟩
 | nums =>
  have h : (xlist xnum s).map _ = _ := h
  cases hx : xlist xnum s with
  | none => rw [hx] at h; cases h
  | some p =>
   rw [hx] at h; injection h with h; injection h with h1 h2; rw [← h1] at hok ⊢
   obtain ⟨i1, _, i3, i4⟩ := xlistF_inv (tx := itoa) (fun _ _ _ h => xnum_inv h) _ _ _ _ hx
   have hl := key _ _ i1
   have ht : (FV.nums p.1).text.length ≤ n + 4 := by show (join [44] (p.1.map itoa)).length ≤ _; omega
   exact ⟨⟨hok, by omega, by show p.1.length ≤ _; omega⟩, ht⟩
 | txts =>
  have h : (xlist unquote s).map _ = _ := h
  cases hx : xlist unquote s with
  | none => rw [hx] at h; cases h
  | some p =>
   rw [hx] at h; injection h with h; injection h with h1 h2; rw [← h1] at hok ⊢
   obtain ⟨i1, _, i3, i4⟩ := xlistF_inv (tx := quote) (fun _ _ _ h => unquote_inv h) _ _ _ _ hx
   have hl := key _ _ i1
   have ht : (FV.txts p.1).text.length ≤ n + 4 := by show (join [44] (p.1.map quote)).length ≤ _; omega
   exact ⟨⟨hok, by omega, ⟨by show p.1.length ≤ _; omega, fun x hx => by have := i4 x hx; have := quote_longer x; omega⟩⟩, ht⟩
 | usrs =>
  have h : (xlist xusr s).map _ = _ := h
  cases hx : xlist xusr s with
  | none => rw [hx] at h; cases h
  | some p =>
   rw [hx] at h; injection h with h; injection h with h1 h2; rw [← h1] at hok ⊢
   obtain ⟨i1, _, i3, i4⟩ := xlistF_inv (tx := usrT) (fun _ _ _ h => xusr_inv h) _ _ _ _ hx
   have hl := key _ _ i1
   have ht : (FV.usrs p.1).text.length ≤ n + 4 := by show (join [44] (p.1.map usrT)).length ≤ _; omega
   exact ⟨⟨hok, by omega, ⟨by show p.1.length ≤ _; omega, fun x hx => by have := i4 x hx; have := usrT_longer x; omega⟩⟩, ht⟩
 | knds =>
  have h : (xlist xknd s).map _ = _ := h
  cases hx : xlist xknd s with
  | none => rw [hx] at h; cases h
  | some p =>
   rw [hx] at h; injection h with h; injection h with h1 h2; rw [← h1] at hok ⊢
   obtain ⟨i1, _, i3, i4⟩ := xlistF_inv (tx := kndT) (fun _ _ _ h => xknd_inv h) _ _ _ _ hx
   have hl := key _ _ i1
   have ht : (FV.knds p.1).text.length ≤ n + 4 := by show (join [44] (p.1.map kndT)).length ≤ _; omega
   exact ⟨⟨hok, by omega, by show p.1.length ≤ _; omega⟩, ht⟩
theorem xfield_fine {i : Nat} {s t : Str} {v : FV} (n : Nat) (hs : s.length ≤ n) (hn : n ≤ 100000) (h : xfield i s = some (v, t)) : v.Fine n := by
 unfold xfield at h
 split at h
 ·exact xreadK_fine n hs hn h
 ·cases hx : xsign 61 s with
  | none => rw [hx] at h; cases h
  | some r =>
   rw [hx] at h
   simp only [Option.bind_some] at h
   have := xsign_lenq hx
   exact xreadK_fine n (by omega) hn h
theorem xreadK_rest {k : FK} {s t : Str} {v : FV} (h : xreadK k s = some (v, t)) : t.length ≤ s.length := by
 have key : ∀ T u : Str, s = T ++ u → u.length ≤ s.length := fun T u e => by rw [e, List.length_append]; omega
 cases k with
 | flg => injection h with h; injection h with h1 h2; rw [h2]; exact Nat.le_refl _
 | num =>
  have h : (xnum s).map _ = _ := h
  cases hx : xnum s with
  | none => rw [hx] at h; cases h
  | some p => rw [hx] at h; injection h with h; injection h with h1 h2; rw [← h2]; exact key _ _ (xnum_inv hx)
 | txt =>
  have h : (unquote s).map _ = _ := h
  cases hx : unquote s with
  | none => rw [hx] at h; cases h
  | some p => rw [hx] at h; injection h with h; injection h with h1 h2; rw [← h2]; exact key _ _ (unquote_inv hx)
 | nums =>
  have h : (xlist xnum s).map _ = _ := h
  cases hx : xlist xnum s with
  | none => rw [hx] at h; cases h
  | some p => rw [hx] at h; injection h with h; injection h with h1 h2; rw [← h2]; exact key _ _ (xlistF_inv (tx := itoa) (fun _ _ _ h => xnum_inv h) _ _ _ _ hx).1
 | txts =>
  have h : (xlist unquote s).map _ = _ := h
  cases hx : xlist unquote s with
  | none => rw [hx] at h; cases h
  | some p => rw [hx] at h; injection h with h; injection h with h1 h2; rw [← h2]; exact key _ _ (xlistF_inv (tx := quote) (fun _ _ _ h => unquote_inv h) _ _ _ _ hx).1
 | usrs =>
  have h : (xlist xusr s).map _ = _ := h
  cases hx : xlist xusr s with
  | none => rw [hx] at h; cases h
  | some p => rw [hx] at h; injection h with h; injection h with h1 h2; rw [← h2]; exact key _ _ (xlistF_inv (tx := usrT) (fun _ _ _ h => xusr_inv h) _ _ _ _ hx).1
 | knds =>
  have h : (xlist xknd s).map _ = _ := h
  cases hx : xlist xknd s with
  | none => rw [hx] at h; cases h
  | some p => rw [hx] at h; injection h with h; injection h with h1 h2; rw [← h2]; exact key _ _ (xlistF_inv (tx := kndT) (fun _ _ _ h => xknd_inv h) _ _ _ _ hx).1
theorem xfield_rest {i : Nat} {s t : Str} {v : FV} (h : xfield i s = some (v, t)) : t.length ≤ s.length := by
 unfold xfield at h
 split at h
 ·exact xreadK_rest h
 ·cases hx : xsign 61 s with
  | none => rw [hx] at h; cases h
  | some r =>
   rw [hx] at h
   simp only [Option.bind_some] at h
   have := xsign_lenq hx
   have := xreadK_rest h
   omega
theorem xname_some {s t : Str} {i : Nat} (h : xname s = some (i, t)) : i < 29 ∧ t.length ≤ s.length := by
 unfold xname at h
 cases hx : NK.findIdx? (fun p => decide (p.1 = s.takeWhile nmch)) with
 | none => rw [hx] at h; cases h
 | some j =>
  rw [hx] at h
  injection h with h
  injection h with h1 h2
  rw [← h1, ← h2]
  exact ⟨(List.findIdx?_eq_some_iff_getElem.1 hx).1, (List.dropWhile_sublist _).length_le⟩
theorem xloopF_end {m : Nat} {e : List FV} : xloopF (m + 1) e [] = some e := by unfold xloopF; rw [if_pos rfl]
theorem xloopF_n {m : Nat} {e : List FV} {s : Str} (hs : s ≠ []) (h : xname s = none) : xloopF (m + 1) e s = none := by unfold xloopF; rw [if_neg hs, h]
theorem xloopF_f {m i : Nat} {e : List FV} {s t : Str} (hs : s ≠ []) (h : xname s = some (i, t)) (h2 : xfield i t = none) : xloopF (m + 1) e s = none := by unfold xloopF; rw [if_neg hs, h]; show (match xfield i t with | none => none | some q => _) = _; rw [h2]
theorem xloopF_b {m i : Nat} {e : List FV} {s t : Str} {v : FV} (hs : s ≠ []) (h : xname s = some (i, t)) (h2 : xfield i t = some (v, [])) : xloopF (m + 1) e s = some (e.set i v) := by unfold xloopF; rw [if_neg hs, h]; show (match xfield i t with | none => none | some q => _) = _; rw [h2]; rfl
theorem xloopF_s {m i : Nat} {e : List FV} {s t q : Str} {v : FV} (hs : s ≠ []) (h : xname s = some (i, t)) (h2 : xfield i t = some (v, q)) (hq : q ≠ []) (h3 : xsign 32 q = none) : xloopF (m + 1) e s = none := by
 unfold xloopF; rw [if_neg hs, h]; show (match xfield i t with | none => none | some q => _) = _; rw [h2]; show (if q = [] then _ else _) = _; rw [if_neg hq]; show (match xsign 32 q with | none => none | some r => _) = _; rw [h3]
theorem xloopF_m {m i : Nat} {e : List FV} {s t q r : Str} {v : FV} (hs : s ≠ []) (h : xname s = some (i, t)) (h2 : xfield i t = some (v, q)) (hq : q ≠ []) (h3 : xsign 32 q = some r) : xloopF (m + 1) e s = xloopF m (e.set i v) r := by
 rw [xloopF, if_neg hs, h]; show (match xfield i t with | none => none | some q => _) = _; rw [h2]; show (if q = [] then _ else _) = _; rw [if_neg hq]; show (match xsign 32 q with | none => none | some r => _) = _; rw [h3]
end Ar
/- The text Cxb. -/
namespace Ar
theorem xloopF_fine (N : Nat) (hN : N ≤ 100000) : ∀ (m : Nat) (e : List FV) (s : Str) (r : List FV), xloopF m e s = some r → s.length ≤ N → (∀ v ∈ e, v.Fine N) → ∀ v ∈ r, v.Fine N
 | 0, e, s, r, h, _, _ => by cases h
 | m + 1, e, s, r, h, hs, he => by
  unfold xloopF at h
  split at h
  ·injection h with h; subst h; exact he
  ·split at h
   ·cases h
   ·rename_i p hp
    split at h
    ·cases h
    ·rename_i q hq
     have h1 := xname_some (i := p.1) (t := p.2) hp
     have h2 := xfield_fine (v := q.1) (t := q.2) N (by omega) hN hq
     have h3 := xfield_rest (v := q.1) (t := q.2) hq
     have hset : ∀ v ∈ e.set p.1 q.1, v.Fine N := fun u hu => by
      rcases List.mem_or_eq_of_mem_set hu with hu | rfl
      ·exact he u hu
      ·exact h2
     split at h
     ·injection h with h; subst h; exact hset
     ·split at h
      ·cases h
      ·rename_i r' hr
       have h4 := xsign_lenq hr
       exact xloopF_fine N hN m _ r' r h (by omega) hset
theorem parse_fine {s : Str} {e : List FV} (h : parse s = some e) (hs : s.length ≤ 100000) : ∀ v ∈ e, v.Fine s.length := by
 rw [← xparse_eq] at h
 unfold xparse at h
 split at h
 ·cases h
 ·rename_i e' he
  split at h
  ·injection h with h
   subst h
   refine xloopF_fine s.length hs _ _ _ _ he (Nat.le_refl _) fun v hv => ?_
   unfold zeros at hv
   obtain ⟨p, _, rfl⟩ := List.mem_map.1 hv
   exact zero_fine _ _
  ·cases h
theorem parse_wok {s : Str} {e : List FV} (h : parse s = some e) (hs : s.length ≤ 100000) : ∀ v ∈ e, v.WOk := fun v hv => (parse_fine h hs v hv).1
end Ar
