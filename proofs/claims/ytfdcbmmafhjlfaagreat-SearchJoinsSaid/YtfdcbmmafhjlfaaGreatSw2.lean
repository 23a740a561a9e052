/- The walk of search.Words: the loop. -/
import Derived.Test.YtfdcbmmafhjlfaaGreatSw1
import Derived.Lib.OthersKept
import Derived.WalkSmall
namespace Go.Proofs.YtfdcbmmafhjlfaaGreat
open Go.RowKit Go.Lib
set_option linter.unusedVariables false

theorem info_u8 : (Tryz.prog.info? 5).map (fun i => (i.zero, i.size, i.bytes)) = some (some (.int .u8 0), 1, 1) := by kernel_rfl
theorem info_str : (Tryz.prog.info? 9).map (fun i => (i.zero, i.size, i.bytes)) = some (some (.string ByteArray.empty), 1, 16) := by kernel_rfl

/-- rows of different element types are different rows -/
theorem own_ne {w : World} {b b' n n' : Nat} {e e' : TypeId} {v v' : Value} {xs xs' : List Value} (h : w.ownsRow b e 1 v n xs) (h' : w.ownsRow b' e' 1 v' n' xs') (hne : e ≠ e') : v.ownBlock = none ∨ v.ownBlock ≠ v'.ownBlock := by
  rcases h.2 with ⟨rfl, _⟩ | ⟨g, cap, cur, rfl, _, hh, _⟩
  · left; simp [Value.ownBlock]
  · right
    rcases h'.2 with ⟨rfl, _⟩ | ⟨g', cap', cur', rfl, _, hh', _⟩
    · simp [Value.ownBlock]
    · intro he
      have : g = g' := by simpa [Value.ownBlock] using he
      subst this
      rw [hh] at hh'
      injection hh' with hh'
      injection hh' with _ ht
      exact hne ht

/-- what holds at the loop's head: the rows of the words and of the word, the iterator, what was there before -/
structure WIn (w : World) (s : ByteArray) (B pos : Nat) (ol : List (List UInt8)) (wl : List UInt8) (Ao : Option Addr) (co : Nat) (Aw : Option Addr) (cw : Nat) (wr : World) : Prop where
  out : wr.ownsRow (B + 1) 9 1 (.slice Ao ol.length co) ol.length (strL ol)
  word : wr.ownsRow (B + 1) 5 1 (.slice Aw wl.length cw) wl.length (bytesL wl)
  iter : wr.heap[B]? = some (.stringIter s pos)
  below : Below B w wr
section
variable {w wr w1 w2 : World} {s : ByteArray} {B pos pos' : Nat} {ol ol' : List (List UInt8)} {wl wl' : List UInt8} {Ao Ao' Aw Aw' : Option Addr} {co co' cw cw' : Nat}
theorem iter_lt (h : wr.heap[B]? = some (.stringIter s pos)) : B < wr.heap.size := (Array.getElem?_eq_some_iff.1 h).1
theorem WIn.next (h : WIn w s B pos ol wl Ao co Aw cw wr) (pos' : Nat) : WIn w s B pos' ol wl Ao co Aw cw (wr.iterAt B s pos') where
  out := ownsRow_iterAt h.out (Nat.lt_succ_self B) s pos'
  word := ownsRow_iterAt h.word (Nat.lt_succ_self B) s pos'
  iter := iterAt_heap wr B s pos pos' h.iter
  below := below_iterAt h.below (Nat.le_refl B) s pos'
theorem WIn.grow (h : WIn w s B pos ol wl Ao co Aw cw wr) {o : Obj} {row : Option Nat} (hg : (wr.alloc o).grownBy w2 row) (hr : ∀ g, row = some g → B + 1 ≤ g) :
    w2.heap[B]? = some (.stringIter s pos) ∧ Below B w w2 := by
  have hl := iter_lt h.iter
  refine ⟨?_, (h.below.alloc (by omega) o).grown hg (by simp; omega) (fun g hg => by have := hr g hg; omega)⟩
  rw [hg.block B (by simp; omega) (fun e => by have := hr B e.symm; omega), Below.heap_alloc wr o B hl]
  exact h.iter
theorem WIn.put (h : WIn w s B pos ol wl Ao co Aw cw wr) {o : Obj} (hg : (wr.alloc o).grownBy w2 (Value.slice Aw wl.length cw).ownBlock) (h2 : w2.ownsRow (B + 1) 5 1 (.slice Aw' wl'.length cw') wl'.length (bytesL wl')) :
    WIn w s B pos ol wl' Ao co Aw' cw' w2 :=
  have hb := h.grow hg (fun g e => (h.word.lt g e).1)
  ⟨(h.out.alloc o).kept hg (own_ne h.out h.word (by decide)), h2, hb.1, hb.2⟩
theorem WIn.add (h : WIn w s B pos ol wl Ao co Aw cw wr) {o : Obj} (hg : (wr.alloc o).grownBy w2 (Value.slice Ao ol.length co).ownBlock) (h2 : w2.ownsRow (B + 1) 9 1 (.slice Ao' ol'.length co') ol'.length (strL ol')) :
    WIn w s B pos ol' [] Ao' co' none 0 w2 :=
  have hb := h.grow hg (fun g e => (h.out.lt g e).1)
  ⟨h2, World.ownsRow_nil _ _ _ _, hb.1, hb.2⟩
end
def WRel (w : World) (s : ByteArray) (B : Nat) (o wd : Value) (wr : World) : Prop :=
  ∃ (pos : Nat) (ol : List (List UInt8)) (wl : List UInt8) (Ao : Option Addr) (co : Nat) (Aw : Option Addr) (cw : Nat), o = .slice Ao ol.length co ∧ wd = .slice Aw wl.length cw ∧ WIn w s B pos ol wl Ao co Aw cw wr ∧
    pos ≤ s.size ∧ ol.length ≤ pos ∧ wl.length ≤ pos ∧ Sr.run ([], []) (s.data.toList.take pos) = (ol, wl)
def OwnS (base : Nat) (w : World) (v : Value) (ss : List (List UInt8)) : Prop := ∃ A cap, v = .slice A ss.length cap ∧ w.ownsRow base 9 1 (.slice A ss.length cap) ss.length (strL ss)
end Go.Proofs.YtfdcbmmafhjlfaaGreat
