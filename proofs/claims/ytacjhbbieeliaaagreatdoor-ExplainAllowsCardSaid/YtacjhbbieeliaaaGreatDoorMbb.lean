/- The texts Nk, Nl, Cp of this proof, one behind the other. -/
import Derived.Deep.CutRange
import Derived.Test.YtacjhbbieeliaaaGreatDoorMba
import Derived.Test.YtacjhbbieeliaaaGreatDoorMaz
import Derived.Test.YtacjhbbieeliaaaGreatDoorMae
set_option linter.unusedSimpArgs false
set_option maxHeartbeats 16000000
set_option maxRecDepth 100000
set_option linter.unusedVariables false
/- The text Nk. -/
namespace Go.Proofs.YtacjhbbieeliaaaGreatDoor
open Go.RowKit Go.Lib
set_option linter.unusedVariables false
set_option linter.unusedSimpArgs false
structure MbS (B : Nat) (w : World) (g : Nat) (q0 : Option Nat) (rule : ByteArray) (id err : Int) (EB : Nat) (X : List Value) (e : Co.Ev) (l : List Co.Ev) (A : Option Addr) (W : World) (q : Option Nat) (ks : List Rn.Tr) (d : Bool) : Prop where
 t : TrS W g q rule id err ks d
 k : PrK w g q0 W q
 row : EvRow (fun b => b < B) W A l
 ev : EvV (fun b => b < B) W X e
 box : Kept W g q EB 34 X.toArray
 lo : B ≤ g ∧ ∀ x, q = some x → B ≤ x
section
variable {B g EB : Nat} {w W W' : World} {q0 q q' : Option Nat} {rule : ByteArray} {id err : Int} {X : List Value} {e : Co.Ev} {l : List Co.Ev} {A : Option Addr} {ks ks' : List Rn.Tr} {d d' : Bool}
theorem MbS.bel (h : MbS B w g q0 rule id err EB X e l A W q ks d) (hb : Below W.heap.size W W') : MbS B w g q0 rule id err EB X e l A W' q ks d :=
 ⟨h.t.bel hb, h.k.tr (PrK.of_bel hb), h.row.bel hb, h.ev.bel hb, h.box.bel hb, h.lo⟩
theorem MbS.ask (h : MbS B w g q0 rule id err EB X e l A W q ks d) (ht : TrS W' g q' rule id err ks' d') (hp : PrK W g q W' q') : MbS B w g q0 rule id err EB X e l A W' q' ks' d' := by
 have hg := h.t.lt
 have hB : Below B W W' := (hp.below (Nat.le_of_lt hg) (fun k hk => Nat.le_of_lt (h.t.own k hk).1)).mono h.lo.1
 refine ⟨ht, h.k.tr hp, Shp.Row.keep (S := EvS) h.row fun b hb _ => ⟨hb, hB.block b hb⟩, EvS.keep h.ev fun b hb _ => ⟨hb, hB.block b hb⟩, h.box.ask hp, h.lo.1, fun x hx => ?_⟩
 have := (ht.own x hx).1
 have := h.lo.1
 omega
end
theorem memberR_rank (e : Co.Ev) (l : List Co.Ev) (hf : Co.firstB e l = false) (hk : (e.key == e.sender) = false) : Co.memberR e l = Co.ask [109, 111, 118, 101] (Co.idM l e.key) (!(Co.move (Co.memOf l e.key) e.n false)) 18 :: Co.ask [115, 101, 110, 100, 101, 114, 45, 106, 111, 105, 110, 101, 100] (Co.idM l e.sender) (!(Co.memOf l e.sender == 3)) 18 :: rankR e l (Co.memOf l e.key) := by
 have hd : ∀ b : Int, decide (Co.userLv (Co.levelsOf l) e.sender < b) = !(decide (b ≤ Co.userLv (Co.levelsOf l) e.sender)) := fun b => by rw [Bool.eq_iff_iff]; simp
 have hd2 : decide (Co.userLv (Co.levelsOf l) e.sender ≤ Co.userLv (Co.levelsOf l) e.key) = !(decide (Co.userLv (Co.levelsOf l) e.key < Co.userLv (Co.levelsOf l) e.sender)) := by rw [Bool.eq_iff_iff]; simp
 unfold Co.memberR rankR
 rw [hf, hk]
 simp only [Bool.false_eq_true, if_false, List.nil_append]
 rw [hd, hd, hd, hd2]
 rfl
def selfR (n r now at_ : Int) : List Rn.Tr := if n = 3 then [.mk [106, 111, 105, 110, 45, 114, 117, 108, 101] at_ (Co.joinE r now) []] else if n = 2 then [.mk [107, 110, 111, 99, 107, 45, 114, 117, 108, 101] at_ (Co.knockE r now) []] else []
theorem memberR_self (e : Co.Ev) (l : List Co.Ev) (hf : Co.firstB e l = false) (hk : (e.key == e.sender) = true) : Co.memberR e l = Co.ask [110, 111, 116, 45, 98, 97, 110, 110, 101, 100] (Co.idM l e.key) (!(Co.memOf l e.key != 4)) 19 :: Co.ask [109, 111, 118, 101] (Co.idM l e.key) (!(Co.move (Co.memOf l e.key) e.n true)) 18 :: selfR e.n (Co.rulesOf l) (Co.memOf l e.key) (Co.idK l 4) := by
 unfold Co.memberR selfR
 rw [hf, hk, show (!(Co.memOf l e.key != 4)) = (Co.memOf l e.key == 4) from by unfold bne; rw [Bool.not_not]]
 simp only [Bool.false_eq_true, if_false, if_true]
 rfl
theorem MbS.n {B g EB : Nat} {w W : World} {q0 q : Option Nat} {rule : ByteArray} {id err : Int} {X : List Value} {e : Co.Ev} {l : List Co.Ev} {A : Option Addr} {ks : List Rn.Tr} {d : Bool} (h : MbS B w g q0 rule id err EB X e l A W q ks d) : W.cell? ⟨EB, 11, none⟩ = some (.int .i64 e.n) := (h.box.1.cell 11).trans (by rw [List.getElem?_toArray]; exact h.ev.c11)
theorem asksP_cons (t : Rn.Tr) (ts ks : List Rn.Tr) (d : Bool) : asksP (t :: ts) ks d = asksP ts (askL ks d t) (askD d t) := rfl
theorem asksP_one (t : Rn.Tr) (ks : List Rn.Tr) (d : Bool) : asksP [t] ks d = (askL ks d t, askD d t) := rfl
theorem member_any (B : Nat) (g : Nat) (q : Option Nat) (rule : ByteArray) (id err : Int) (ks : List Rn.Tr) (done : Bool) (e : Co.Ev) (X : List Value) (l : List Co.Ev) (A : Option Addr) (cap : Nat) (w : World) (ht : TrS w g q rule id err ks done) (hn : ks.length ≤ 800) (hX : EvV (fun b => b < B) w X e) (h : EvRow (fun b => b < B) w A l) (hlo : B ≤ g) (hl : l.length ≤ 1000000) (hs : ∀ x ∈ l, x.users.length ≤ 1000000 ∧ x.kinds.length ≤ 1000000) (hal : ∀ x ∈ l, x.allow.length ≤ 1000000) (hp : e.prev.length ≤ 1000000) :
  Calls Tryz.prog 17 #[.pointer (some ⟨g, 0, none⟩), .agg X.toArray, .slice A l.length cap] w (AsksA g q rule id err ks done (Co.memberR e l) w) := by
 have hb1 := (Below.refl w.heap.size w).alloc (Nat.le_refl _) (.cells X.toArray 34)
 have hgl := ht.lt
 have HOWN := hid ht.own
 have HNL := hid hn
 have HSE := hid (size_evA hX)
 have HHS := hid hs
 have HHA := hid hal
 have S1 : Hid (MbS B w g q rule id err w.heap.size X e l A (w.alloc (.cells X.toArray 34)) q ks done) := hid ⟨ht.bel hb1, PrK.of_bel hb1, h.bel hb1, hX.bel hb1, ⟨Blk.new w 34 X.toArray, by omega, fun e => by have := HOWN.out _ e.symm; omega⟩, hlo, fun x hx => by have := (HOWN.out x hx).1; omega⟩
 have HBG := hid (begins_any _ e X l A cap _ S1.out.ev S1.out.row hl hp)
 obtain ⟨R, hR⟩ : ∃ R, R = Co.memberR e l := ⟨_, rfl⟩
 have HR := hid hR
 rw [← hR]
 clear ht hn hX h hs hal hp hR hb1
 generalize hw1 : w.alloc (.cells X.toArray 34) = w1 at *
 have SS := S1
 go_enter Tryz.func17, Tryz.ntmps17
 go_wp2_with (first | (refine wpList_load_row rfl 34 _ rfl w.heap.size rfl 34 X.toArray (0, 0) _ SS.out.box.1 Tryz.underlying34 rfl HSE.out ?_))
 refine HBG.out.mono ?_
 rintro r w2 ⟨rfl, hb2⟩
 have S2 := hid (S1.out.bel hb2)
 clear hb2
 cases hfb : Co.firstB e l with
 | true =>
  have HRK : Hid (R = [Co.ask [102, 105, 114, 115, 116, 45, 106, 111, 105, 110] (Co.idK l 1) (!true) 0]) := hid (by rw [HR.out]; unfold Co.memberR; rw [if_pos hfb]; rfl)
  clear hfb
  go_wp2_with fail
  refine (idof_any _ l A cap 1 w2 S2.out.row hl).mono ?_
  rintro r w3 ⟨rfl, hb3⟩
  have S3 := hid (S2.out.bel hb3)
  clear hb3
  go_wp2_with fail
  refine (must_any g q rule id err ks done [102, 105, 114, 115, 116, 45, 106, 111, 105, 110] (Co.idK l 1) true 0 w3 S3.out.t (by have := HNL.out; omega)).mono ?_
  rintro r w4 ⟨rfl, q4, h4, p4⟩
  have S4 := hid (S3.out.ask h4 p4)
  clear h4 p4
  go_wp2_with fail
  exact bodyPost_ret (results_none rfl _ _ _) rfl ⟨rfl, q4, by rw [HRK.out]; exact S4.out.t, S4.out.k⟩
 | false =>
  have HFB := hid hfb
  clear hfb
  have hc5 : w2.cell? ⟨w.heap.size, 5, none⟩ = some (.string (bstr e.key)) := (S2.out.box.1.cell 5).trans (by rw [List.getElem?_toArray]; exact S2.out.ev.c5)
  have hc2 : w2.cell? ⟨w.heap.size, 2, none⟩ = some (.string (bstr e.sender)) := (S2.out.box.1.cell 2).trans (by rw [List.getElem?_toArray]; exact S2.out.ev.c2)
  have hsd := str_dec e.key (bstr e.sender)
  rw [show (bstr e.sender).data.toList = e.sender from rfl] at hsd
  obtain ⟨sf, hsf⟩ : ∃ sf, sf = decide (e.key = e.sender) := ⟨_, rfl⟩
  rw [← hsf] at hsd
  have HSF := hid hsf
  clear hsf
  have HEC5 := hid hc5
  have S3 := S2
  obtain ⟨w3, hw3⟩ : ∃ x, x = w2 := ⟨_, rfl⟩
  subst hw3
  go_upto_region 4 with fail
  go_cut [7, 8] from 23 to 31 (fun na nb wx => na = .int .i64 (Co.memOf l e.key) ∧ nb = .int .i64 (Co.idM l e.key) ∧ Below w3.heap.size w3 wx)
  case first =>
   refine wp_region_noPanic ?_
   refine wp_region_held_drew (S := fun W => Below w3.heap.size w3 W) (by kernel_rfl) ((Below.refl _ _).drew) (fun hHeld => ?_)
   generalize hwd : w3.drew = wd at *
   have HBd := hid hHeld
   clear hwd
   refine wpAnyH_take (i := 0) (oi := _) (v := ?_) rfl (by kernel_rfl) (by kernel_rfl) (by kernel_rfl) (fun _ _ _ h => h) (Or.inl ⟨by kernel_rfl, ?_⟩) hHeld ?_
   rotate_left
   ·intro wq hSw
    go_simp
    (try with_reducible rfl)
   (try simp only [Act.put, pk1, pk2, pk3, pk4, pk5, pk6])
   refine wpAnyH_take (i := 1) (oi := _) (v := ?_) rfl (by kernel_rfl) (by kernel_rfl) (by kernel_rfl) (fun _ _ _ h => h) (Or.inl ⟨by kernel_rfl, ?_⟩) hHeld ?_
   rotate_left
   ·intro wq hSw
    go_simp
    (try with_reducible rfl)
   (try simp only [Act.put, pk1, pk2, pk3, pk4, pk5, pk6])
   refine wpAnyH_take (i := 2) (oi := _) (v := ?_) rfl (by kernel_rfl) (by kernel_rfl) (by kernel_rfl) (fun _ _ _ h => h) (Or.inl ⟨by kernel_rfl, ?_⟩) hHeld ?_
   rotate_left
   ·intro wq hSw
    have hx5 : wq.cell? ⟨w.heap.size, 5, none⟩ = some (.string (bstr e.key)) := (Below.cell hSw (p := ⟨w.heap.size, 5, none⟩) S3.out.box.1.lt).trans (HEC5.out)
    go_simp
    (try with_reducible rfl)
   (try simp only [Act.put, pk1, pk2, pk3, pk4, pk5, pk6])
   refine wpAnyH_take (i := 4) (oi := _) (v := ?_) rfl (by kernel_rfl) (by kernel_rfl) (by kernel_rfl) (fun _ _ _ h => h) (Or.inl ⟨by kernel_rfl, ?_⟩) hHeld ?_
   rotate_left
   ·intro wq hSw
    go_simp
    (try with_reducible rfl)
   (try simp only [Act.put, pk1, pk2, pk3, pk4, pk5, pk6])
   refine wpAnyH_take (i := 5) (oi := _) (v := ?_) rfl (by kernel_rfl) (by kernel_rfl) (by kernel_rfl) (fun _ _ _ h => h) (Or.inl ⟨by kernel_rfl, ?_⟩) hHeld ?_
   rotate_left
   ·intro wq hSw
    go_simp
    (try with_reducible rfl)
   (try simp only [Act.put, pk1, pk2, pk3, pk4, pk5, pk6])
   refine wpAnyH_take (i := 6) (oi := _) (v := ?_) rfl (by kernel_rfl) (by kernel_rfl) (by kernel_rfl) (fun _ _ _ h => h) (Or.inl ⟨by kernel_rfl, ?_⟩) hHeld ?_
   rotate_left
   ·intro wq hSw
    have hx5 : wq.cell? ⟨w.heap.size, 5, none⟩ = some (.string (bstr e.key)) := (Below.cell hSw (p := ⟨w.heap.size, 5, none⟩) S3.out.box.1.lt).trans (HEC5.out)
    go_simp
    (try with_reducible rfl)
   (try simp only [Act.put, pk1, pk2, pk3, pk4, pk5, pk6])
   refine wpAnyH_ready (rs := [3, 7]) (by kernel_rfl) (by simp) ?_
   refine AllReadyH.cons (o := _) rfl (fun K hK => ?_) (AllReadyH.cons (o := _) rfl (fun K hK => ?_) AllReadyH.nil)
   ·go_simp
    go_at_call 41
    refine (memof_any _ l A cap e.key wd (S3.out.row.bel HBd.out) hl).mono ?_
    rintro r wy ⟨rfl, hwy⟩
    subst hwy
    refine hK.out _ _ (HBd.out) (fun hHeld2 => ?_)
    clear hK K hHeld
    have hHeld := hHeld2
    clear hHeld2
    (try simp only [Act.put, pk1, pk2, pk3, pk4, pk5, pk6])
    refine wpAnyH_ready (rs := [7]) (by kernel_rfl) (by simp) ?_
    refine AllReadyH.cons (o := _) rfl (fun K hK => ?_) AllReadyH.nil
    go_simp
    have HBk := hid (HBd.out.alloc HBd.out.size (.cells #[.string (bstr e.key)] 9))
    have HKEY := hid (Blk.new wd 9 #[.string (bstr e.key)])
    generalize hwk : wd.alloc (.cells #[.string (bstr e.key)] 9) = wk at *
    refine hK.out _ _ (HBk.out) (fun hHeld2 => ?_)
    clear hK K hHeld
    have hHeld := hHeld2
    clear hHeld2
    (try simp only [Act.put, pk1, pk2, pk3, pk4, pk5, pk6])
    refine wpAnyH_ready (rs := [8]) (by kernel_rfl) (by simp) ?_
    refine AllReadyH.cons (o := _) rfl (fun K hK => ?_) AllReadyH.nil
    go_simp
    go_at_call 15
    refine (idofk_any _ l A cap e.key wd.heap.size 0 1 wk (S3.out.row.bel HBk.out) hl (HKEY.out.cell 0)).mono ?_
    rintro r wz ⟨rfl, hbz⟩
    have HBz := hid (HBk.out.trans (hbz.mono HBk.out.size))
    clear hbz
    refine hK.out _ _ (HBz.out) (fun hHeld2 => ?_)
    clear hK K hHeld
    have hHeld := hHeld2
    clear hHeld2
    (try simp only [Act.put, pk1, pk2, pk3, pk4, pk5, pk6])
    refine wpAnyH_take (i := 9) (oi := _) (v := ?_) rfl (by kernel_rfl) (by kernel_rfl) (by kernel_rfl) (fun _ _ _ h => h) (Or.inl ⟨by kernel_rfl, ?_⟩) hHeld ?_
    rotate_left
    ·intro wq hSw
     go_simp
     (try with_reducible rfl)
    (try simp only [Act.put, pk1, pk2, pk3, pk4, pk5, pk6])
    refine wpAnyH_take (i := 10) (oi := _) (v := ?_) rfl (by kernel_rfl) (by kernel_rfl) (by kernel_rfl) (fun _ _ _ h => h) (Or.inl ⟨by kernel_rfl, ?_⟩) hHeld ?_
    rotate_left
    ·intro wq hSw
     go_simp
     (try with_reducible rfl)
    (try simp only [Act.put, pk1, pk2, pk3, pk4, pk5, pk6])
    refine wpAnyH_done (by kernel_rfl) ?_ _
    refine NoPanic.normal ?_
    go_wp2_with fail
    go_meet
    exact ⟨rfl, rfl, HBz.out⟩
   ·go_simp
    have HBk := hid (HBd.out.alloc HBd.out.size (.cells #[.string (bstr e.key)] 9))
    have HKEY := hid (Blk.new wd 9 #[.string (bstr e.key)])
    generalize hwk : wd.alloc (.cells #[.string (bstr e.key)] 9) = wk at *
    refine hK.out _ _ (HBk.out) (fun hHeld2 => ?_)
    clear hK K hHeld
    have hHeld := hHeld2
    clear hHeld2
    (try simp only [Act.put, pk1, pk2, pk3, pk4, pk5, pk6])
    refine wpAnyH_ready (rs := [3]) (by kernel_rfl) (by simp) ?_
    refine AllReadyH.cons (o := _) rfl (fun K hK => ?_) AllReadyH.nil
    go_simp
    go_at_call 41
    refine (memof_any _ l A cap e.key wk (S3.out.row.bel HBk.out) hl).mono ?_
    rintro r wy ⟨rfl, hwy⟩
    subst hwy
    refine hK.out _ _ (HBk.out) (fun hHeld2 => ?_)
    clear hK K hHeld
    have hHeld := hHeld2
    clear hHeld2
    (try simp only [Act.put, pk1, pk2, pk3, pk4, pk5, pk6])
    refine wpAnyH_ready (rs := [8]) (by kernel_rfl) (by simp) ?_
    refine AllReadyH.cons (o := _) rfl (fun K hK => ?_) AllReadyH.nil
    go_simp
    go_at_call 15
    refine (idofk_any _ l A cap e.key wd.heap.size 0 1 wk (S3.out.row.bel HBk.out) hl (HKEY.out.cell 0)).mono ?_
    rintro r wz ⟨rfl, hbz⟩
    have HBz := hid (HBk.out.trans (hbz.mono HBk.out.size))
    clear hbz
    refine hK.out _ _ (HBz.out) (fun hHeld2 => ?_)
    clear hK K hHeld
    have hHeld := hHeld2
    clear hHeld2
    (try simp only [Act.put, pk1, pk2, pk3, pk4, pk5, pk6])
    refine wpAnyH_take (i := 9) (oi := _) (v := ?_) rfl (by kernel_rfl) (by kernel_rfl) (by kernel_rfl) (fun _ _ _ h => h) (Or.inl ⟨by kernel_rfl, ?_⟩) hHeld ?_
    rotate_left
    ·intro wq hSw
     go_simp
     (try with_reducible rfl)
    (try simp only [Act.put, pk1, pk2, pk3, pk4, pk5, pk6])
    refine wpAnyH_take (i := 10) (oi := _) (v := ?_) rfl (by kernel_rfl) (by kernel_rfl) (by kernel_rfl) (fun _ _ _ h => h) (Or.inl ⟨by kernel_rfl, ?_⟩) hHeld ?_
    rotate_left
    ·intro wq hSw
     go_simp
     (try with_reducible rfl)
    (try simp only [Act.put, pk1, pk2, pk3, pk4, pk5, pk6])
    refine wpAnyH_done (by kernel_rfl) ?_ _
    refine NoPanic.normal ?_
    go_wp2_with fail
    go_meet
    exact ⟨rfl, rfl, HBz.out⟩
  case rest =>
   obtain ⟨rfl, rfl, hbx⟩ := hcut
   have S5 := hid (S3.out.bel hbx)
   clear hbx
   obtain ⟨now, hnow⟩ : ∃ x, x = Co.memOf l e.key := ⟨_, rfl⟩
   obtain ⟨at_, hat⟩ : ∃ x, x = Co.idM l e.key := ⟨_, rfl⟩
   rw [← hnow, ← hat]
   cases sf with
   | true =>
    have hks : (e.key == e.sender) = true := by rw [beq_iff_eq]; exact of_decide_eq_true HSF.out.symm
    have HRS := hid (HR.out.trans (memberR_self e l HFB.out hks))
    rw [← hnow, ← hat] at HRS
    clear hks hnow hat HR HBG hsd
    go_wp2_with fail
    refine (must_any g q rule id err ks done [110, 111, 116, 45, 98, 97, 110, 110, 101, 100] at_ (now != 4) 19 wc S5.out.t (by have := HNL.out; omega)).mono ?_
    rintro r w6 ⟨rfl, q6, ht, hp⟩
    have S6 := hid (S5.out.ask ht hp)
    clear ht hp
    obtain ⟨k6, hk6⟩ : ∃ x, x = askL ks done (Co.ask [110, 111, 116, 45, 98, 97, 110, 110, 101, 100] at_ (!(now != 4)) 19) := ⟨_, rfl⟩
    obtain ⟨d6, hd6⟩ : ∃ x, x = askD done (Co.ask [110, 111, 116, 45, 98, 97, 110, 110, 101, 100] at_ (!(now != 4)) 19) := ⟨_, rfl⟩
    rw [← hk6, ← hd6] at S6
    have HK6 := hid (And.intro hk6 hd6)
    have hl6 : k6.length ≤ ks.length + 1 := by rw [hk6]; exact askL_len _ _ _
    have HN6 := hid hl6
    clear hk6 hd6 hl6
    have hen := S6.out.n
    go_wp2_with fail
    refine (move_any now e.n true _).mono ?_
    rintro r w7 ⟨rfl, hb7⟩
    have S7 := hid (S6.out.bel hb7)
    clear hb7 hen
    go_wp2_with fail
    refine (must_any g q6 rule id err k6 d6 [109, 111, 118, 101] at_ (Co.move now e.n true) 18 w7 S7.out.t (by have := HNL.out; have := HN6.out; omega)).mono ?_
    rintro r w8 ⟨rfl, q8, ht, hp⟩
    have S8 := hid (S7.out.ask ht hp)
    clear ht hp
    obtain ⟨k8, hk8⟩ : ∃ x, x = askL k6 d6 (Co.ask [109, 111, 118, 101] at_ (!(Co.move now e.n true)) 18) := ⟨_, rfl⟩
    obtain ⟨d8, hd8⟩ : ∃ x, x = askD d6 (Co.ask [109, 111, 118, 101] at_ (!(Co.move now e.n true)) 18) := ⟨_, rfl⟩
    rw [← hk8, ← hd8] at S8
    have HK8 := hid (And.intro hk8 hd8)
    have hl8 : k8.length ≤ k6.length + 1 := by rw [hk8]; exact askL_len _ _ _
    have HN8 := hid hl8
    clear hk8 hd8 hl8
    go_wp2_with fail
    refine (rof_any _ l A cap w8 S8.out.row hl HHA.out).mono ?_
    rintro r w9 ⟨⟨cv, rfl⟩, hb9⟩
    have S9 := hid (S8.out.bel hb9)
    clear hb9
    obtain ⟨ru, hru⟩ : ∃ x, x = Co.rulesOf l := ⟨_, rfl⟩
    obtain ⟨ak, hak⟩ : ∃ x, x = Co.idK l 4 := ⟨_, rfl⟩
    rw [← hru, ← hak] at HRS
    rw [← hru]
    obtain ⟨nn, hnn⟩ : ∃ x, x = e.n := ⟨_, rfl⟩
    have hen : w9.cell? ⟨w.heap.size, 11, none⟩ = some (.int .i64 nn) := by rw [hnn]; exact S9.out.n
    rw [← hnn] at HRS
    have HAK := hid hak
    have HM : Hid (k8 = askL k6 d6 (Co.ask [109, 111, 118, 101] at_ (!(Co.move now nn true)) 18) ∧ d8 = askD d6 (Co.ask [109, 111, 118, 101] at_ (!(Co.move now nn true)) 18)) := hid (by rw [hnn]; exact HK8.out)
    clear hak hru hnn HK8
    have HL8 : Hid (k8.length ≤ 802) := hid (by have := HNL.out; have := HN6.out; have := HN8.out; omega)
    by_cases h3 : nn = 3
    ·subst h3
     have HRE : Hid (asksP R ks done = (askL k8 d8 (.mk [106, 111, 105, 110, 45, 114, 117, 108, 101] ak (Co.joinE ru now) []), askD d8 (.mk [106, 111, 105, 110, 45, 114, 117, 108, 101] ak (Co.joinE ru now) []))) := hid (by rw [HRS.out, asksP_cons, asksP_cons, ← HK6.out.1, ← HK6.out.2, ← HM.out.1, ← HM.out.2, show selfR 3 ru now ak = [.mk [106, 111, 105, 110, 45, 114, 117, 108, 101] ak (Co.joinE ru now) []] from rfl]; rfl)
     go_wp2_with fail
     refine (idof_any _ l A cap 4 w9 S9.out.row hl).mono ?_
     rintro r w10 ⟨rfl, hb10⟩
     have S10 := hid (S9.out.bel hb10)
     clear hb10 hen
     rw [← HAK.out]
     go_wp2_with fail
     refine (join_any ru now w10).mono ?_
     rintro r w11 ⟨rfl, rfl⟩
     go_wp2_with fail
     refine (ask_any g q8 rule id err k8 d8 [106, 111, 105, 110, 45, 114, 117, 108, 101] ak (Co.joinE ru now) _ S10.out.t (by have := HL8.out; omega)).mono ?_
     rintro r w12 ⟨rfl, q12, ht, hp⟩
     have HT12 := hid ht
     have HP12 := hid (S10.out.k.tr hp)
     clear ht hp
     go_wp2_with fail
     go_end0
     exact ⟨rfl, q12, by rw [HRE.out]; exact HT12.out, HP12.out⟩
    by_cases h2 : nn = 2
    ·subst h2
     have HRE : Hid (asksP R ks done = (askL k8 d8 (.mk [107, 110, 111, 99, 107, 45, 114, 117, 108, 101] ak (Co.knockE ru now) []), askD d8 (.mk [107, 110, 111, 99, 107, 45, 114, 117, 108, 101] ak (Co.knockE ru now) []))) := hid (by rw [HRS.out, asksP_cons, asksP_cons, ← HK6.out.1, ← HK6.out.2, ← HM.out.1, ← HM.out.2, show selfR 2 ru now ak = [.mk [107, 110, 111, 99, 107, 45, 114, 117, 108, 101] ak (Co.knockE ru now) []] from rfl]; rfl)
     go_wp2_with fail
     refine (idof_any _ l A cap 4 w9 S9.out.row hl).mono ?_
     rintro r w10 ⟨rfl, hb10⟩
     have S10 := hid (S9.out.bel hb10)
     clear hb10 hen
     rw [← HAK.out]
     go_wp2_with fail
     refine (knock_any ru now w10).mono ?_
     rintro r w11 ⟨rfl, rfl⟩
     go_wp2_with fail
     refine (ask_any g q8 rule id err k8 d8 [107, 110, 111, 99, 107, 45, 114, 117, 108, 101] ak (Co.knockE ru now) _ S10.out.t (by have := HL8.out; omega)).mono ?_
     rintro r w12 ⟨rfl, q12, ht, hp⟩
     have HT12 := hid ht
     have HP12 := hid (S10.out.k.tr hp)
     clear ht hp
     go_wp2_with fail
     go_end0
     exact ⟨rfl, q12, by rw [HRE.out]; exact HT12.out, HP12.out⟩
    have HRE : Hid (asksP R ks done = (k8, d8)) := hid (by rw [HRS.out, asksP_cons, asksP_cons, ← HK6.out.1, ← HK6.out.2, ← HM.out.1, ← HM.out.2, show selfR nn ru now ak = [] from by unfold selfR; rw [if_neg h3, if_neg h2]]; rfl)
    have e3 := eqb_false h3
    have e2 := eqb_false h2
    clear h3 h2
    go_wp2_with fail
    go_end0
    exact ⟨rfl, q8, by rw [HRE.out]; exact S9.out.t, S9.out.k⟩
   | false =>
    have hks : (e.key == e.sender) = false := by rw [beq_eq_false_iff_ne]; exact of_decide_eq_false HSF.out.symm
    have HRS := hid (HR.out.trans (memberR_rank e l HFB.out hks))
    rw [← hnow, ← hat] at HRS
    clear hks hnow hat HR HBG hsd
    have hen := S5.out.n
    go_wp2_with fail
    refine (move_any now e.n false _).mono ?_
    rintro r w6 ⟨rfl, hb6⟩
    have S6 := hid (S5.out.bel hb6)
    clear hb6 hen
    go_wp2_with fail
    refine (must_any g q rule id err ks done [109, 111, 118, 101] at_ (Co.move now e.n false) 18 w6 S6.out.t (by have := HNL.out; omega)).mono ?_
    rintro r w7 ⟨rfl, q7, ht, hp⟩
    have S7 := hid (S6.out.ask ht hp)
    clear ht hp
    obtain ⟨k7, hk7⟩ : ∃ x, x = askL ks done (Co.ask [109, 111, 118, 101] at_ (!(Co.move now e.n false)) 18) := ⟨_, rfl⟩
    obtain ⟨d7, hd7⟩ : ∃ x, x = askD done (Co.ask [109, 111, 118, 101] at_ (!(Co.move now e.n false)) 18) := ⟨_, rfl⟩
    rw [← hk7, ← hd7] at S7
    have HK7 := hid (And.intro hk7 hd7)
    have hl7 : k7.length ≤ ks.length + 1 := by rw [hk7]; exact askL_len _ _ _
    have HN7 := hid hl7
    clear hk7 hd7 hl7
    have SS := S7
    go_wp2_with (first | (refine wpList_load_row rfl 34 _ rfl w.heap.size rfl 34 X.toArray (0, 0) _ SS.out.box.1 Tryz.underlying34 rfl HSE.out ?_))
    refine (sender_any _ g q7 rule id err k7 d7 e X l A cap w7 S7.out.t (by have := HNL.out; have := HN7.out; omega) S7.out.ev S7.out.row hl).mono ?_
    rintro r w8 ⟨rfl, q8, ht, hp⟩
    have S8 := hid (S7.out.ask ht hp)
    clear ht hp
    obtain ⟨k8, hk8⟩ : ∃ x, x = askL k7 d7 (Co.ask [115, 101, 110, 100, 101, 114, 45, 106, 111, 105, 110, 101, 100] (Co.idM l e.sender) (!(Co.memOf l e.sender == 3)) 18) := ⟨_, rfl⟩
    obtain ⟨d8, hd8⟩ : ∃ x, x = askD d7 (Co.ask [115, 101, 110, 100, 101, 114, 45, 106, 111, 105, 110, 101, 100] (Co.idM l e.sender) (!(Co.memOf l e.sender == 3)) 18) := ⟨_, rfl⟩
    rw [← hk8, ← hd8] at S8
    have HK8 := hid (And.intro hk8 hd8)
    have hl8 : k8.length ≤ k7.length + 1 := by rw [hk8]; exact askL_len _ _ _
    have HN8 := hid hl8
    clear hk8 hd8 hl8 SS
    have SS := S8
    go_wp2_with (first | (refine wpList_load_row rfl 34 _ rfl w.heap.size rfl 34 X.toArray (0, 0) _ SS.out.box.1 Tryz.underlying34 rfl HSE.out ?_))
    refine (rank_any _ g q8 rule id err k8 d8 e X l A cap now w8 S8.out.t (by have := HNL.out; have := HN7.out; have := HN8.out; omega) S8.out.ev S8.out.row hl HHS.out).mono ?_
    rintro r w9 ⟨rfl, q9, ht, hp⟩
    have HT9 : Hid (TrS w9 g q9 rule id err (asksP R ks done).1 (asksP R ks done).2 ∧ PrK w g q w9 q9) := hid ⟨by rw [HRS.out, asksP_cons, asksP_cons, ← HK7.out.1, ← HK7.out.2, ← HK8.out.1, ← HK8.out.2]; exact ht, S8.out.k.tr hp⟩
    clear ht hp
    go_wp2_with fail
    exact bodyPost_ret (results_none rfl _ _ _) rfl ⟨rfl, q9, HT9.out.1, HT9.out.2⟩
end Go.Proofs.YtacjhbbieeliaaaGreatDoor
/- The text Nl. -/
namespace Go.Proofs.YtacjhbbieeliaaaGreatDoor
open Go.RowKit Go.Lib
set_option linter.unusedVariables false
set_option linter.unusedSimpArgs false
theorem ExS.asks {w W W' : World} {EB RB g : Nat} {X : List Value} {q : Option Nat} {rule : ByteArray} {id err : Int} {ks : List Rn.Tr} {done : Bool} {ts : List Rn.Tr} {r : Ending} (h : ExS w EB RB X W g q rule id err ks done) (ha : AsksA g q rule id err ks done ts W r W') : ∃ q', ExS w EB RB X W' g q' rule id err (asksP ts ks done).1 (asksP ts ks done).2 := by
 obtain ⟨-, q', h1, h2⟩ := ha
 have h3 := h.t.lt
 have h4 := h.lt
 have h5 := h.t.own
 refine ⟨q', h1, h.b.trans ((h2.below (by omega) (fun k hk => by have := h5 k hk; omega)).mono h4.2.2), range_keep h.e (h2.block _ (by omega) (by omega) (fun e => by have := h5 _ e.symm; omega)), (h2.block _ h.r.lt (by omega) (fun e => by have := h5 _ e.symm; omega)).trans h.r, h4⟩
theorem ExS.ask2 {w W W' : World} {EB RB g : Nat} {X : List Value} {q : Option Nat} {rule : ByteArray} {id err : Int} {ks : List Rn.Tr} {done : Bool} {t : Rn.Tr} {r : Ending} (h : ExS w EB RB X W g q rule id err ks done) (ha : AskA g q rule id err ks done t W r W') : ∃ q', ExS w EB RB X W' g q' rule id err (askL ks done t) (askD done t) ∧ PrK W g q W' q' := by
 obtain ⟨-, q', h1, h2⟩ := ha
 have h3 := h.t.lt
 have h4 := h.lt
 have h5 := h.t.own
 refine ⟨q', ⟨h1, h.b.trans ((h2.below (by omega) (fun k hk => by have := h5 k hk; omega)).mono h4.2.2), range_keep h.e (h2.block _ (by omega) (by omega) (fun e => by have := h5 _ e.symm; omega)), (h2.block _ h.r.lt (by omega) (fun e => by have := h5 _ e.symm; omega)).trans h.r, h4⟩, h2⟩
theorem ev_lv_all {ok : Nat → Prop} {w : World} {X : List Value} {e : Co.Ev} (h : EvV ok w X e) : ∃ Y, (∀ (W : World) (b : Nat), W.rangeAt b 0 X → W.rangeAt b 17 Y) ∧ LvV ok w Y (Co.lvOf e) := by
 obtain ⟨cp, ca, cl, cd, cu, ck, rfl, hl⟩ := h
 refine ⟨lvC (Co.lvOf e) cu ck, fun W b hr j v hj => ?_, ⟨cu, ck, rfl, hl.users, hl.kinds⟩⟩
 rw [show 17 + j = 0 + (17 + j) by omega]
 refine hr (17 + j) v ?_
 have hj9 : j < 9 := (List.getElem?_eq_some_iff.1 hj).1
 match j, hj9, hj with
 | 0, _, hj => exact hj
 | 1, _, hj => exact hj
 | 2, _, hj => exact hj
 | 3, _, hj => exact hj
 | 4, _, hj => exact hj
 | 5, _, hj => exact hj
 | 6, _, hj => exact hj
 | 7, _, hj => exact hj
 | 8, _, hj => exact hj
theorem pexp_k1 (ok : Nat → Prop) (e : Co.Ev) (X : List Value) (l : List Co.Ev) (A : Option Addr) (cap : Nat) (w : World) (hX : EvV ok w X e) (h : EvRow ok w A l) (hl : l.length ≤ 1000000) (hls : ∀ x ∈ l, x.users.length ≤ 1000000 ∧ x.kinds.length ≤ 1000000) (hsz : e.sender.length ≤ 1000000 ∧ e.room.length ≤ 1000000) (m : Int) (hm : w.cell? ⟨0, 0, none⟩ = some (.int .i64 m)) (hk1 : e.kind = 1)
  (hA : ∀ W, Below w.heap.size w W → Calls Tryz.prog 11 #[.agg X.toArray, .slice A l.length cap] W fun r w' => r = .returned (.int .i64 (Co.allowedE e l)) ∧ Below W.heap.size W w') :
  Calls Tryz.prog 8 #[.agg X.toArray, .slice A l.length cap] w fun r w' => AllowA e l w.heap.size r w' ∧ Below w.heap.size w w' := by
 have hkb1 : (e.kind == 1) = true := eqb_true hk1
 have HRU : Hid (Co.allowedR e l = .mk [97, 108, 108, 111, 119, 101, 100] e.id (Co.allowedE e l) (Co.upTo [Co.ask [99, 114, 101, 97, 116, 101, 45, 97, 108, 111, 110, 101] (Co.idK l 1) (Co.createOf l).isSome 17, Co.ask [99, 114, 101, 97, 116, 101, 45, 115, 101, 114, 118, 101, 114] e.id (!(Co.sameServer e)) 17])) := hid (by
  unfold Co.allowedR Co.rulesR
  rw [if_pos hk1])
 have HSZS := hid hsz.1
 have HSZR := hid hsz.2
 have HM := hid hm
 obtain ⟨AE, hAE⟩ : ∃ AE, AE = Co.allowedE e l := ⟨_, rfl⟩
 rw [← hAE] at hA HRU
 have HX := hid hX
 have HROW := hid h
 have HA := hid hA
 have HLS := hid hls
 have hxl := hX.len
 have HLE : Hid ((Tryz.prog.info? 34).map (·.size) = some X.length) := hid (by rw [size_ev, hxl])
 have hk0 := (Blk.new w 34 X.toArray).alloc (.cells zRn 42)
 have hr0 := Blk.new (w.alloc (.cells X.toArray 34)) 42 zRn
 rw [World.size_alloc] at hr0
 have hb1 := ((Below.refl w.heap.size w).alloc (Nat.le_refl _) (.cells X.toArray 34)).alloc (by rw [World.size_alloc]; omega) (.cells zRn 42)
 have HC1 : Hid (((w.alloc (.cells X.toArray 34)).alloc (.cells zRn 42)).drew.cell? ⟨w.heap.size, 0, none⟩ = some (.int .i64 e.id) ∧ ((w.alloc (.cells X.toArray 34)).alloc (.cells zRn 42)).drew.rangeAt w.heap.size 0 X) := hid ⟨(hk0.cell 0).trans (by rw [List.getElem?_toArray]; exact hX.c0), range_of_blk hk0⟩
 have HB1d : Hid (Below w.heap.size w ((w.alloc (.cells X.toArray 34)).alloc (.cells zRn 42)).drew) := hid hb1.drew
 have HRB := hid hr0
 have hs1 : w.heap.size < ((w.alloc (.cells X.toArray 34)).alloc (.cells zRn 42)).heap.size := by rw [World.size_alloc, World.size_alloc]; omega
 clear hX h hA hls hxl hk0 hr0 hb1 hAE hsz hm hk1
 generalize hw1 : (w.alloc (.cells X.toArray 34)).alloc (.cells zRn 42) = w1 at *
 go_enter Tryz.func8, Tryz.ntmps8
 go_wp2_with fail
 refine wp_region_noPanic ?_
 refine wp_region_held_drew (S := fun W => W.cell? ⟨w.heap.size, 0, none⟩ = some (.int .i64 e.id) ∧ W.rangeAt w.heap.size 0 X) (by kernel_rfl) (HC1.out) (fun hHeld => ?_)
 refine wpAnyH_take (i := 0) (oi := _) (v := ?_) rfl (by kernel_rfl) (by kernel_rfl) (by kernel_rfl) (fun _ _ _ h => h) (Or.inl ⟨by kernel_rfl, ?_⟩) hHeld ?_
 rotate_left
 ·intro wq hSw
  go_simp
  (try with_reducible rfl)
 (try simp only [Act.put, List.getElem_toArray, List.getElem_cons_zero, List.getElem_cons_succ, List.setIfInBounds_toArray, List.set_cons_zero, List.set_cons_succ])
 refine wpAnyH_take (i := 1) (oi := _) (v := ?_) rfl (by kernel_rfl) (by kernel_rfl) (by kernel_rfl) (fun _ _ _ h => h) (Or.inl ⟨by kernel_rfl, ?_⟩) hHeld ?_
 rotate_left
 ·intro wq hSw
  have hSw1 := hSw.1
  go_simp
  (try with_reducible rfl)
 (try simp only [Act.put, List.getElem_toArray, List.getElem_cons_zero, List.getElem_cons_succ, List.setIfInBounds_toArray, List.set_cons_zero, List.set_cons_succ])
 refine wpAnyH_take (i := 2) (oi := _) (v := _) rfl (by kernel_rfl) (by kernel_rfl) (by kernel_rfl) (fun _ _ _ h => h) (mid_yields rfl Tryz.underlying34 HLE.out (fun W h => by exact h.2) (by kernel_rfl) _ rfl rfl) hHeld ?_
 (try simp only [Act.put, List.getElem_toArray, List.getElem_cons_zero, List.getElem_cons_succ, List.setIfInBounds_toArray, List.set_cons_zero, List.set_cons_succ])
 refine wpAnyH_take (i := 3) (oi := _) (v := ?_) rfl (by kernel_rfl) (by kernel_rfl) (by kernel_rfl) (fun _ _ _ h => h) (Or.inl ⟨by kernel_rfl, ?_⟩) hHeld ?_
 rotate_left
 ·intro wq hSw
  go_simp
  (try with_reducible rfl)
 (try simp only [Act.put, List.getElem_toArray, List.getElem_cons_zero, List.getElem_cons_succ, List.setIfInBounds_toArray, List.set_cons_zero, List.set_cons_succ])
 refine wpAnyH_ready (rs := [4]) (by kernel_rfl) (by simp) ?_
 refine AllReadyH.cons (o := _) rfl (fun K hK => ?_) AllReadyH.nil
 go_simp
 go_at_call 11
 refine (HA.out w1.drew HB1d.out).mono ?_
 rintro r w2 ⟨rfl, hb2⟩
 have HB2 := hid (HB1d.out.trans (hb2.mono HB1d.out.size))
 have HC2 : Hid (w2.cell? ⟨w.heap.size, 0, none⟩ = some (.int .i64 e.id) ∧ w2.rangeAt w.heap.size 0 X) := hid ⟨(hb2.cell (p := ⟨w.heap.size, 0, none⟩) hs1).trans HC1.out.1, range_keep HC1.out.2 (hb2.block _ hs1)⟩
 have HRB2 := hid (HRB.out.below (show Below w1.heap.size w1 w2 from (Below.refl w1.heap.size w1).drew.trans hb2) HRB.out.lt)
 have hs2 : w.heap.size + 1 < w2.heap.size := HRB2.out.lt
 clear hb2
 refine hK.out _ _ (HC2.out) (fun hHeld2 => ?_)
 clear hK K hHeld
 have hHeld := hHeld2
 clear hHeld2
 (try simp only [Act.put, List.getElem_toArray, List.getElem_cons_zero, List.getElem_cons_succ, List.setIfInBounds_toArray, List.set_cons_zero, List.set_cons_succ])
 refine wpAnyH_take (i := 5) (oi := _) (v := ?_) rfl (by kernel_rfl) (by kernel_rfl) (by kernel_rfl) (fun _ _ _ h => h) (Or.inl ⟨by kernel_rfl, ?_⟩) hHeld ?_
 rotate_left
 ·intro wq hSw
  go_simp
  (try with_reducible rfl)
 (try simp only [Act.put, List.getElem_toArray, List.getElem_cons_zero, List.getElem_cons_succ, List.setIfInBounds_toArray, List.set_cons_zero, List.set_cons_succ])
 refine wpAnyH_take (i := 6) (oi := _) (v := ?_) rfl (by kernel_rfl) (by kernel_rfl) (by kernel_rfl) (fun _ _ _ h => h) (Or.inl ⟨by kernel_rfl, ?_⟩) hHeld ?_
 rotate_left
 ·intro wq hSw
  go_simp
  (try with_reducible rfl)
 (try simp only [Act.put, List.getElem_toArray, List.getElem_cons_zero, List.getElem_cons_succ, List.setIfInBounds_toArray, List.set_cons_zero, List.set_cons_succ])
 refine wpAnyH_ready (rs := [7]) (by kernel_rfl) (by simp) ?_
 refine AllReadyH.cons (o := _) rfl (fun K hK => ?_) AllReadyH.nil
 go_simp
 have HT3 : Hid (TrS (w2.alloc (.cells #[.string ⟨#[97, 108, 108, 111, 119, 101, 100]⟩, .int .i64 e.id, .int .i64 AE, .slice none 0 0, .bool false] 52)) w2.heap.size none ⟨#[97, 108, 108, 111, 119, 101, 100]⟩ e.id AE [] false) := hid ⟨_, Blk.new w2 52 _, Shp.Own.nil, rfl⟩
 have hz3 := (Below.refl w2.heap.size w2).alloc (Nat.le_refl _) (.cells #[.string ⟨#[97, 108, 108, 111, 119, 101, 100]⟩, .int .i64 e.id, .int .i64 AE, .slice none 0 0, .bool false] 52)
 have HB3 := hid (HB2.out.trans (hz3.mono HB2.out.size))
 have HC3 : Hid ((w2.alloc (.cells #[.string ⟨#[97, 108, 108, 111, 119, 101, 100]⟩, .int .i64 e.id, .int .i64 AE, .slice none 0 0, .bool false] 52)).cell? ⟨w.heap.size, 0, none⟩ = some (.int .i64 e.id) ∧ (w2.alloc (.cells #[.string ⟨#[97, 108, 108, 111, 119, 101, 100]⟩, .int .i64 e.id, .int .i64 AE, .slice none 0 0, .bool false] 52)).rangeAt w.heap.size 0 X) := hid ⟨(hz3.cell (p := ⟨w.heap.size, 0, none⟩) (by show w.heap.size < w2.heap.size; omega)).trans HC2.out.1, range_keep HC2.out.2 (hz3.block _ (by omega))⟩
 have HRB3 := hid (HRB2.out.below hz3 HRB2.out.lt)
 clear hz3
 refine hK.out _ _ (HC3.out) (fun hHeld2 => ?_)
 clear hK K hHeld
 have hHeld := hHeld2
 clear hHeld2
 (try simp only [Act.put, List.getElem_toArray, List.getElem_cons_zero, List.getElem_cons_succ, List.setIfInBounds_toArray, List.set_cons_zero, List.set_cons_succ])
 refine wpAnyH_take (i := 8) (oi := _) (v := ?_) rfl (by kernel_rfl) (by kernel_rfl) (by kernel_rfl) (fun _ _ _ h => h) (Or.inl ⟨by kernel_rfl, ?_⟩) hHeld ?_
 rotate_left
 ·intro wq hSw
  go_simp
  (try with_reducible rfl)
 (try simp only [Act.put, List.getElem_toArray, List.getElem_cons_zero, List.getElem_cons_succ, List.setIfInBounds_toArray, List.set_cons_zero, List.set_cons_succ])
 refine wpAnyH_done (by kernel_rfl) ?_ _
 refine NoPanic.normal ?_
 have HS4 : Hid (ExS w w.heap.size (w.heap.size + 1) X (w2.alloc (.cells #[.string ⟨#[97, 108, 108, 111, 119, 101, 100]⟩, .int .i64 e.id, .int .i64 AE, .slice none 0 0, .bool false] 52)) w2.heap.size none ⟨#[97, 108, 108, 111, 119, 101, 100]⟩ e.id AE [] false) := hid ⟨HT3.out, HB3.out, HC3.out.2, HRB3.out, by omega⟩
 clear hHeld
 generalize w2.alloc (.cells #[.string ⟨#[97, 108, 108, 111, 119, 101, 100]⟩, .int .i64 e.id, .int .i64 AE, .slice none 0 0, .bool false] 52) = w4 at *
 generalize w2.heap.size = g at *
 clear HT3 HB3 HC3 HRB3 HC2 HRB2 HB2 hs2
 have HX0 : Hid (X[3]? = some (.int .i64 e.kind) ∧ X[2]? = some (.string (bstr e.sender))) := hid ⟨HX.out.c3, HX.out.c2⟩
 go_wp2_with fail
 refine (show Calls Tryz.prog 13 #[.slice A l.length cap, .int .i64 1, .slice none 0 0] w4 fun r w' => FoundA ok (Co.createOf l) r w' ∧ Below w4.heap.size w4 w' from first_any ok l A cap 1 w4 (HROW.out.bel HS4.out.b) hl).mono ?_
 rintro r w5 ⟨⟨V, rfl, hv⟩, hb5⟩
 have hvl := hv.len
 rw [Array.length_toList] at hvl
 have HSX : Hid ((Tryz.prog.info? 34).map (·.size) = some V.size) := hid (by rw [size_ev, hvl])
 have HSZ : Hid (zEv.size = V.size) := hid hvl.symm
 have HOV : Hid (V.all (·.oneCell') = true) := hid (by have := EvS.all hv; rwa [Array.toArray_toList] at this)
 have HN := hid (Blk.new w5 34 zEv)
 have HS6 := hid (HS4.out.bel (below_setRow (g := w5.heap.size) (hb5.alloc hb5.size (.cells zEv 34)) hb5.size V))
 clear hv hvl hb5
 go_upto_region 3 with (((with_reducible refine store_rowe rfl 34 _ _ rfl w5.heap.size V ?_ ?_ 34 zEv HN.out HSX.out HSZ.out HOV.out ?_); rfl; rfl))
 generalize (w5.alloc (.cells zEv 34)).setRow w5.heap.size V = w6 at *
 have hc3 : w6.cell? ⟨w.heap.size, 3, none⟩ = some (.int .i64 e.kind) := by have := HS6.out.e 3 _ HX0.out.1; rwa [Nat.zero_add] at this
 generalize hmade : (Co.createOf l).isSome = made at *
 have HMD := hid hmade
 clear hmade
 go_wp2_with fail
 refine (idof_any ok l A cap 1 w6 (HROW.out.bel HS6.out.b) hl).mono ?_
 rintro r w7 ⟨rfl, hb7⟩
 have HS7 := hid (HS6.out.bel hb7)
 clear hb7 hc3
 go_wp2_with fail
 refine (must_any g none ⟨#[97, 108, 108, 111, 119, 101, 100]⟩ e.id AE [] false [99, 114, 101, 97, 116, 101, 45, 97, 108, 111, 110, 101] (Co.idK l 1) (!made) 17 w7 HS7.out.t (by simp)).mono ?_
 rintro r w8 hask
 obtain ⟨q8, hs8⟩ := HS7.out.ask hask
 obtain ⟨rfl, -⟩ := hask
 have HS8 := hid hs8
 clear hs8
 obtain ⟨ks1, hks1⟩ : ∃ k, k = askL [] false (Co.ask [99, 114, 101, 97, 116, 101, 45, 97, 108, 111, 110, 101] (Co.idK l 1) (!(!made)) 17) := ⟨_, rfl⟩
 obtain ⟨d1, hd1⟩ : ∃ k, k = askD false (Co.ask [99, 114, 101, 97, 116, 101, 45, 97, 108, 111, 110, 101] (Co.idK l 1) (!(!made)) 17) := ⟨_, rfl⟩
 rw [← hks1, ← hd1] at HS8
 have HK1 := hid (And.intro hks1 hd1)
 have hn1 : ks1.length ≤ 1 := by rw [hks1]; simp [askL]
 clear hks1 hd1
 have hsd := str_dec (Pr.serverOf e.sender) (bstr (Pr.serverOf e.room))
 rw [show (bstr (Pr.serverOf e.room)).data.toList = Pr.serverOf e.room from rfl] at hsd
 obtain ⟨ss, hss⟩ : ∃ ss, ss = decide (Pr.serverOf e.sender = Pr.serverOf e.room) := ⟨_, rfl⟩
 rw [← hss] at hsd
 have HSS : Hid (Co.sameServer e = ss) := hid (by unfold Co.sameServer; rw [hss, Bool.eq_iff_iff]; simp)
 clear hss
 have HX1 : Hid (X[1]? = some (.string (bstr e.room)) ∧ X[0]? = some (.int .i64 e.id)) := hid ⟨HX.out.c1, HX.out.c0⟩
 have HCI : ∀ W g q ks d, ExS w w.heap.size (w.heap.size + 1) X W g q ⟨#[97, 108, 108, 111, 119, 101, 100]⟩ e.id AE ks d → W.cell? ⟨w.heap.size, 0, none⟩ = some (.int .i64 e.id) ∧ W.cell? ⟨w.heap.size, 2, none⟩ = some (.string (bstr e.sender)) ∧ W.cell? ⟨w.heap.size, 1, none⟩ = some (.string (bstr e.room)) := fun W g q ks d h => ⟨by have := h.e 0 _ HX1.out.2; rwa [Nat.zero_add] at this, by have := h.e 2 _ HX0.out.2; rwa [Nat.zero_add] at this, by have := h.e 1 _ HX1.out.1; rwa [Nat.zero_add] at this⟩
 have HCJ := hid HCI
 clear HCI
 go_upto_region 5 with fail
 have HS8d := hid (HS8.out.bel (Below.refl w8.heap.size w8).drew)
 have hC0 := HCJ.out _ _ _ _ _ HS8d.out
 refine wp_region_noPanic ?_
 refine wp_region_held_drew (S := fun W => W.cell? ⟨w.heap.size, 0, none⟩ = some (.int .i64 e.id) ∧ W.cell? ⟨w.heap.size, 2, none⟩ = some (.string (bstr e.sender)) ∧ W.cell? ⟨w.heap.size, 1, none⟩ = some (.string (bstr e.room))) (by kernel_rfl) (hC0) (fun hHeld => ?_)
 generalize hw8d : w8.drew = w8d at *
 clear hw8d
 refine wpAnyH_take (i := 0) (oi := _) (v := ?_) rfl (by kernel_rfl) (by kernel_rfl) (by kernel_rfl) (fun _ _ _ h => h) (Or.inl ⟨by kernel_rfl, ?_⟩) hHeld ?_
 rotate_left
 ·intro wq hSw
  go_simp
  (try with_reducible rfl)
 (try simp only [Act.put, List.getElem_toArray, List.getElem_cons_zero, List.getElem_cons_succ, List.setIfInBounds_toArray, List.set_cons_zero, List.set_cons_succ])
 refine wpAnyH_take (i := 1) (oi := _) (v := ?_) rfl (by kernel_rfl) (by kernel_rfl) (by kernel_rfl) (fun _ _ _ h => h) (Or.inl ⟨by kernel_rfl, ?_⟩) hHeld ?_
 rotate_left
 ·intro wq hSw
  go_simp
  (try with_reducible rfl)
 (try simp only [Act.put, List.getElem_toArray, List.getElem_cons_zero, List.getElem_cons_succ, List.setIfInBounds_toArray, List.set_cons_zero, List.set_cons_succ])
 refine wpAnyH_take (i := 2) (oi := _) (v := ?_) rfl (by kernel_rfl) (by kernel_rfl) (by kernel_rfl) (fun _ _ _ h => h) (Or.inl ⟨by kernel_rfl, ?_⟩) hHeld ?_
 rotate_left
 ·intro wq hSw
  have hx0 := hSw.1
  have hx2 := hSw.2.1
  have hx1 := hSw.2.2
  clear hSw
  go_simp
  (try with_reducible rfl)
 (try simp only [Act.put, List.getElem_toArray, List.getElem_cons_zero, List.getElem_cons_succ, List.setIfInBounds_toArray, List.set_cons_zero, List.set_cons_succ])
 refine wpAnyH_take (i := 3) (oi := _) (v := ?_) rfl (by kernel_rfl) (by kernel_rfl) (by kernel_rfl) (fun _ _ _ h => h) (Or.inl ⟨by kernel_rfl, ?_⟩) hHeld ?_
 rotate_left
 ·intro wq hSw
  go_simp
  (try with_reducible rfl)
 (try simp only [Act.put, List.getElem_toArray, List.getElem_cons_zero, List.getElem_cons_succ, List.setIfInBounds_toArray, List.set_cons_zero, List.set_cons_succ])
 refine wpAnyH_take (i := 4) (oi := _) (v := ?_) rfl (by kernel_rfl) (by kernel_rfl) (by kernel_rfl) (fun _ _ _ h => h) (Or.inl ⟨by kernel_rfl, ?_⟩) hHeld ?_
 rotate_left
 ·intro wq hSw
  have hx0 := hSw.1
  have hx2 := hSw.2.1
  have hx1 := hSw.2.2
  clear hSw
  go_simp
  (try with_reducible rfl)
 (try simp only [Act.put, List.getElem_toArray, List.getElem_cons_zero, List.getElem_cons_succ, List.setIfInBounds_toArray, List.set_cons_zero, List.set_cons_succ])
 refine wpAnyH_take (i := 6) (oi := _) (v := ?_) rfl (by kernel_rfl) (by kernel_rfl) (by kernel_rfl) (fun _ _ _ h => h) (Or.inl ⟨by kernel_rfl, ?_⟩) hHeld ?_
 rotate_left
 ·intro wq hSw
  go_simp
  (try with_reducible rfl)
 (try simp only [Act.put, List.getElem_toArray, List.getElem_cons_zero, List.getElem_cons_succ, List.setIfInBounds_toArray, List.set_cons_zero, List.set_cons_succ])
 refine wpAnyH_take (i := 7) (oi := _) (v := ?_) rfl (by kernel_rfl) (by kernel_rfl) (by kernel_rfl) (fun _ _ _ h => h) (Or.inl ⟨by kernel_rfl, ?_⟩) hHeld ?_
 rotate_left
 ·intro wq hSw
  have hx0 := hSw.1
  have hx2 := hSw.2.1
  have hx1 := hSw.2.2
  clear hSw
  go_simp
  (try with_reducible rfl)
 (try simp only [Act.put, List.getElem_toArray, List.getElem_cons_zero, List.getElem_cons_succ, List.setIfInBounds_toArray, List.set_cons_zero, List.set_cons_succ])
 refine wpAnyH_ready (rs := [5]) (by kernel_rfl) (by simp) ?_
 refine AllReadyH.cons (o := _) rfl (fun K hK => ?_) AllReadyH.nil
 go_simp
 go_at_call 16
 refine (serverofb_any e.sender m w8d HSZS.out ((Below.cell HS8d.out.b (p := ⟨0, 0, none⟩) (block_lt HM.out)).trans HM.out)).mono ?_
 rintro r w9 ⟨rfl, hb⟩
 have HS9 := hid (HS8d.out.bel hb)
 clear hb
 refine hK.out _ _ (HCJ.out _ _ _ _ _ HS9.out) (fun hHeld2 => ?_)
 clear hK K hHeld
 have hHeld := hHeld2
 clear hHeld2
 (try simp only [Act.put, List.getElem_toArray, List.getElem_cons_zero, List.getElem_cons_succ, List.setIfInBounds_toArray, List.set_cons_zero, List.set_cons_succ])
 refine wpAnyH_ready (rs := [8]) (by kernel_rfl) (by simp) ?_
 refine AllReadyH.cons (o := _) rfl (fun K hK => ?_) AllReadyH.nil
 go_simp
 go_at_call 16
 refine (serverofb_any e.room m w9 HSZR.out ((Below.cell HS9.out.b (p := ⟨0, 0, none⟩) (block_lt HM.out)).trans HM.out)).mono ?_
 rintro r w10 ⟨rfl, hb⟩
 have HS10 := hid (HS9.out.bel hb)
 clear hb
 refine hK.out _ _ (HCJ.out _ _ _ _ _ HS10.out) (fun hHeld2 => ?_)
 clear hK K hHeld
 have hHeld := hHeld2
 clear hHeld2
 (try simp only [Act.put, List.getElem_toArray, List.getElem_cons_zero, List.getElem_cons_succ, List.setIfInBounds_toArray, List.set_cons_zero, List.set_cons_succ])
 refine wpAnyH_take (i := 9) (oi := _) (v := ?_) rfl (by kernel_rfl) (by kernel_rfl) (by kernel_rfl) (fun _ _ _ h => h) (Or.inl ⟨by kernel_rfl, ?_⟩) hHeld ?_
 rotate_left
 ·intro wq hSw
  go_simp
  (try with_reducible rfl)
 (try simp only [Act.put, List.getElem_toArray, List.getElem_cons_zero, List.getElem_cons_succ, List.setIfInBounds_toArray, List.set_cons_zero, List.set_cons_succ])
 have HMU := hid (must_any g q8 ⟨#[97, 108, 108, 111, 119, 101, 100]⟩ e.id AE ks1 d1 [99, 114, 101, 97, 116, 101, 45, 115, 101, 114, 118, 101, 114] e.id ss 17 w10 HS10.out.t (by omega))
 refine wpAnyH_ready (rs := [10]) (by kernel_rfl) (by simp) ?_
 refine AllReadyH.cons (o := _) rfl (fun K hK => ?_) AllReadyH.nil
 go_simp
 go_at_call 14
 refine HMU.out.mono ?_
 rintro r w15 hask
 obtain ⟨q15, hs15⟩ := HS10.out.ask hask
 obtain ⟨rfl, -⟩ := hask
 obtain ⟨ks3, hks3⟩ : ∃ k, k = askL ks1 d1 (Co.ask [99, 114, 101, 97, 116, 101, 45, 115, 101, 114, 118, 101, 114] e.id (!ss) 17) := ⟨_, rfl⟩
 rw [← hks3] at hs15
 have HS15 := hid hs15
 have HK3 := hid hks3
 clear hks3 hs15
 refine hK.out _ _ (HCJ.out _ _ _ _ _ HS15.out) (fun hHeld2 => ?_)
 clear hK K hHeld
 have hHeld := hHeld2
 clear hHeld2
 (try simp only [Act.put, List.getElem_toArray, List.getElem_cons_zero, List.getElem_cons_succ, List.setIfInBounds_toArray, List.set_cons_zero, List.set_cons_succ])
 refine wpAnyH_done (by kernel_rfl) ?_ _
 refine NoPanic.normal ?_
 obtain ⟨kv, htb, hto, htq⟩ := HS15.out.t
 obtain ⟨A5, c5, rfl, -⟩ := hto.len
 have hrt : w15.rangeAt g 0 [.string ⟨#[97, 108, 108, 111, 119, 101, 100]⟩, .int .i64 e.id, .int .i64 AE, .slice A5 ks3.length c5] := fun j v hj => by
  have hj4 : j < 4 := (List.getElem?_eq_some_iff.1 hj).1
  rw [Nat.zero_add, htb.cell]
  match j, hj4, hj with
  | 0, _, hj => exact hj
  | 1, _, hj => exact hj
  | 2, _, hj => exact hj
  | 3, _, hj => exact hj
 have HL4 : Hid ((Tryz.prog.info? 42).map (·.size) = some ([.string ⟨#[97, 108, 108, 111, 119, 101, 100]⟩, .int .i64 e.id, .int .i64 AE, .slice A5 ks3.length c5] : List Value).length) := hid size_rea
 have HRT := hid hrt
 obtain ⟨A6, c6, e6, -, hrow6⟩ := hto.row (ok' := fun b => g + 1 ≤ b) (fun b h => h) (fun k hk => by
  obtain ⟨xs, h1, -⟩ := hto
  exact (h1.lt k hk).1)
 injection e6 with e6 _ e7
 subst e6 e7
 have hltr := HS15.out.lt
 have hrow7 := hrow6.keep (w' := w15.setRow (w.heap.size + 1) #[.string ⟨#[97, 108, 108, 111, 119, 101, 100]⟩, .int .i64 e.id, .int .i64 AE, .slice A5 ks3.length c5]) (ok' := fun b => w.heap.size ≤ b) (fun b hb _ => ⟨by omega, setRow_other _ _ _ _ (by omega)⟩)
 have HRW7 := hid hrow7
 have HRB15 := hid HS15.out.r
 clear hrt htb hto htq hrow6 hrow7
 go_wp2_with (first
  | ((with_reducible refine wpList_load_mid rfl 42 _ rfl g 0 ?_ [.string ⟨#[97, 108, 108, 111, 119, 101, 100]⟩, .int .i64 e.id, .int .i64 AE, .slice A5 ks3.length c5] _ HRT.out Tryz.underlying42 ?_ HL4.out ?_); rfl; rfl)
  | ((with_reducible refine store_rowb rfl 42 _ _ rfl (w.heap.size + 1) #[.string ⟨#[97, 108, 108, 111, 119, 101, 100]⟩, .int .i64 e.id, .int .i64 AE, .slice A5 ks3.length c5] ?_ ?_ 42 zRn HRB15.out size_rn ?_ (by simp [Value.oneCell']) ?_); rfl; rfl; rfl))
 have hks3 : ks3 = Co.upTo ([Co.ask [99, 114, 101, 97, 116, 101, 45, 97, 108, 111, 110, 101] (Co.idK l 1) made 17, Co.ask [99, 114, 101, 97, 116, 101, 45, 115, 101, 114, 118, 101, 114] e.id (!(Co.sameServer e)) 17]) := by
  have h0 := ask_fold [Co.ask [99, 114, 101, 97, 116, 101, 45, 97, 108, 111, 110, 101] (Co.idK l 1) (!(!made)) 17, Co.ask [99, 114, 101, 97, 116, 101, 45, 115, 101, 114, 118, 101, 114] e.id (!ss) 17] [] false
  simp only [List.foldl_cons, List.foldl_nil, Bool.false_eq_true, if_false, List.nil_append] at h0
  rw [HSS.out, show Co.ask [99, 114, 101, 97, 116, 101, 45, 97, 108, 111, 110, 101] (Co.idK l 1) made 17 = Co.ask [99, 114, 101, 97, 116, 101, 45, 97, 108, 111, 110, 101] (Co.idK l 1) (!(!made)) 17 by rw [Bool.not_not]]
  rw [← HK1.out.1, ← HK1.out.2, ← HK3.out] at h0
  exact h0
 exact bodyPost_ret (results_cell_row rfl _ _ (w.heap.size + 1) 42 _ (0, 0) _ rfl (setRow_heap _ _ _ _ _ _ HRB15.out) Tryz.underlying42 rfl size_rn) rfl ⟨⟨_, rfl, by rw [HRU.out, ← hks3]; exact RnV.make HRW7.out.rn⟩, below_setRow HS15.out.b (Nat.le_succ _) _⟩
theorem pexp_k2 (e : Co.Ev) (X : List Value) (l : List Co.Ev) (A : Option Addr) (cap : Nat) (w : World) (hX : EvV (fun b => b < w.heap.size) w X e) (h : EvRow (fun b => b < w.heap.size) w A l) (hl : l.length ≤ 1000000) (hls : ∀ x ∈ l, x.users.length ≤ 1000000 ∧ x.kinds.length ≤ 1000000) (hal : ∀ x ∈ l, x.allow.length ≤ 1000000) (hp : e.prev.length ≤ 1000000) (hk2 : e.kind = 2)
  (hA : ∀ W, Below w.heap.size w W → Calls Tryz.prog 11 #[.agg X.toArray, .slice A l.length cap] W fun r w' => r = .returned (.int .i64 (Co.allowedE e l)) ∧ Below W.heap.size W w') :
  Calls Tryz.prog 8 #[.agg X.toArray, .slice A l.length cap] w fun r w' => AllowA e l w.heap.size r w' ∧ Below w.heap.size w w' := by
 have hkb1 : (e.kind == 1) = false := by rw [hk2]; rfl
 have hkb2 : (e.kind == 2) = true := eqb_true hk2
 have HRU : Hid (Co.allowedR e l = .mk [97, 108, 108, 111, 119, 101, 100] e.id (Co.allowedE e l) (Co.upTo (Co.ask [99, 114, 101, 97, 116, 105, 111, 110] (Co.idK l 1) (Co.createOf l).isNone 17 :: Co.memberR e l))) := hid (by
  unfold Co.allowedR Co.rulesR
  rw [if_neg (by omega), if_pos hk2])
 have HAL := hid hal
 have HPR := hid hp
 obtain ⟨ok, hok⟩ : ∃ o : Nat → Prop, o = (fun b => b < w.heap.size) := ⟨_, rfl⟩
 rw [← hok] at hX h
 have HOK := hid hok
 clear hok
 obtain ⟨AE, hAE⟩ : ∃ AE, AE = Co.allowedE e l := ⟨_, rfl⟩
 rw [← hAE] at hA HRU
 have HX := hid hX
 have HROW := hid h
 have HA := hid hA
 have HLS := hid hls
 have hxl := hX.len
 have HLE : Hid ((Tryz.prog.info? 34).map (·.size) = some X.length) := hid (by rw [size_ev, hxl])
 have hk0 := (Blk.new w 34 X.toArray).alloc (.cells zRn 42)
 have hr0 := Blk.new (w.alloc (.cells X.toArray 34)) 42 zRn
 rw [World.size_alloc] at hr0
 have hb1 := ((Below.refl w.heap.size w).alloc (Nat.le_refl _) (.cells X.toArray 34)).alloc (by rw [World.size_alloc]; omega) (.cells zRn 42)
 have HC1 : Hid (((w.alloc (.cells X.toArray 34)).alloc (.cells zRn 42)).drew.cell? ⟨w.heap.size, 0, none⟩ = some (.int .i64 e.id) ∧ ((w.alloc (.cells X.toArray 34)).alloc (.cells zRn 42)).drew.rangeAt w.heap.size 0 X) := hid ⟨(hk0.cell 0).trans (by rw [List.getElem?_toArray]; exact hX.c0), range_of_blk hk0⟩
 have HB1d : Hid (Below w.heap.size w ((w.alloc (.cells X.toArray 34)).alloc (.cells zRn 42)).drew) := hid hb1.drew
 have HRB := hid hr0
 have hs1 : w.heap.size < ((w.alloc (.cells X.toArray 34)).alloc (.cells zRn 42)).heap.size := by rw [World.size_alloc, World.size_alloc]; omega
 clear hX h hA hls hxl hk0 hr0 hb1 hAE hal hp hk2
 generalize hw1 : (w.alloc (.cells X.toArray 34)).alloc (.cells zRn 42) = w1 at *
 go_enter Tryz.func8, Tryz.ntmps8
 go_wp2_with fail
 refine wp_region_noPanic ?_
 refine wp_region_held_drew (S := fun W => W.cell? ⟨w.heap.size, 0, none⟩ = some (.int .i64 e.id) ∧ W.rangeAt w.heap.size 0 X) (by kernel_rfl) (HC1.out) (fun hHeld => ?_)
 refine wpAnyH_take (i := 0) (oi := _) (v := ?_) rfl (by kernel_rfl) (by kernel_rfl) (by kernel_rfl) (fun _ _ _ h => h) (Or.inl ⟨by kernel_rfl, ?_⟩) hHeld ?_
 rotate_left
 ·intro wq hSw
  go_simp
  (try with_reducible rfl)
 (try simp only [Act.put, List.getElem_toArray, List.getElem_cons_zero, List.getElem_cons_succ, List.setIfInBounds_toArray, List.set_cons_zero, List.set_cons_succ])
 refine wpAnyH_take (i := 1) (oi := _) (v := ?_) rfl (by kernel_rfl) (by kernel_rfl) (by kernel_rfl) (fun _ _ _ h => h) (Or.inl ⟨by kernel_rfl, ?_⟩) hHeld ?_
 rotate_left
 ·intro wq hSw
  have hSw1 := hSw.1
  go_simp
  (try with_reducible rfl)
 (try simp only [Act.put, List.getElem_toArray, List.getElem_cons_zero, List.getElem_cons_succ, List.setIfInBounds_toArray, List.set_cons_zero, List.set_cons_succ])
 refine wpAnyH_take (i := 2) (oi := _) (v := _) rfl (by kernel_rfl) (by kernel_rfl) (by kernel_rfl) (fun _ _ _ h => h) (mid_yields rfl Tryz.underlying34 HLE.out (fun W h => by exact h.2) (by kernel_rfl) _ rfl rfl) hHeld ?_
 (try simp only [Act.put, List.getElem_toArray, List.getElem_cons_zero, List.getElem_cons_succ, List.setIfInBounds_toArray, List.set_cons_zero, List.set_cons_succ])
 refine wpAnyH_take (i := 3) (oi := _) (v := ?_) rfl (by kernel_rfl) (by kernel_rfl) (by kernel_rfl) (fun _ _ _ h => h) (Or.inl ⟨by kernel_rfl, ?_⟩) hHeld ?_
 rotate_left
 ·intro wq hSw
  go_simp
  (try with_reducible rfl)
 (try simp only [Act.put, List.getElem_toArray, List.getElem_cons_zero, List.getElem_cons_succ, List.setIfInBounds_toArray, List.set_cons_zero, List.set_cons_succ])
 refine wpAnyH_ready (rs := [4]) (by kernel_rfl) (by simp) ?_
 refine AllReadyH.cons (o := _) rfl (fun K hK => ?_) AllReadyH.nil
 go_simp
 go_at_call 11
 refine (HA.out w1.drew HB1d.out).mono ?_
 rintro r w2 ⟨rfl, hb2⟩
 have HB2 := hid (HB1d.out.trans (hb2.mono HB1d.out.size))
 have HC2 : Hid (w2.cell? ⟨w.heap.size, 0, none⟩ = some (.int .i64 e.id) ∧ w2.rangeAt w.heap.size 0 X) := hid ⟨(hb2.cell (p := ⟨w.heap.size, 0, none⟩) hs1).trans HC1.out.1, range_keep HC1.out.2 (hb2.block _ hs1)⟩
 have HRB2 := hid (HRB.out.below (show Below w1.heap.size w1 w2 from (Below.refl w1.heap.size w1).drew.trans hb2) HRB.out.lt)
 have hs2 : w.heap.size + 1 < w2.heap.size := HRB2.out.lt
 clear hb2
 refine hK.out _ _ (HC2.out) (fun hHeld2 => ?_)
 clear hK K hHeld
 have hHeld := hHeld2
 clear hHeld2
 (try simp only [Act.put, List.getElem_toArray, List.getElem_cons_zero, List.getElem_cons_succ, List.setIfInBounds_toArray, List.set_cons_zero, List.set_cons_succ])
 refine wpAnyH_take (i := 5) (oi := _) (v := ?_) rfl (by kernel_rfl) (by kernel_rfl) (by kernel_rfl) (fun _ _ _ h => h) (Or.inl ⟨by kernel_rfl, ?_⟩) hHeld ?_
 rotate_left
 ·intro wq hSw
  go_simp
  (try with_reducible rfl)
 (try simp only [Act.put, List.getElem_toArray, List.getElem_cons_zero, List.getElem_cons_succ, List.setIfInBounds_toArray, List.set_cons_zero, List.set_cons_succ])
 refine wpAnyH_take (i := 6) (oi := _) (v := ?_) rfl (by kernel_rfl) (by kernel_rfl) (by kernel_rfl) (fun _ _ _ h => h) (Or.inl ⟨by kernel_rfl, ?_⟩) hHeld ?_
 rotate_left
 ·intro wq hSw
  go_simp
  (try with_reducible rfl)
 (try simp only [Act.put, List.getElem_toArray, List.getElem_cons_zero, List.getElem_cons_succ, List.setIfInBounds_toArray, List.set_cons_zero, List.set_cons_succ])
 refine wpAnyH_ready (rs := [7]) (by kernel_rfl) (by simp) ?_
 refine AllReadyH.cons (o := _) rfl (fun K hK => ?_) AllReadyH.nil
 go_simp
 have HT3 : Hid (TrS (w2.alloc (.cells #[.string ⟨#[97, 108, 108, 111, 119, 101, 100]⟩, .int .i64 e.id, .int .i64 AE, .slice none 0 0, .bool false] 52)) w2.heap.size none ⟨#[97, 108, 108, 111, 119, 101, 100]⟩ e.id AE [] false) := hid ⟨_, Blk.new w2 52 _, Shp.Own.nil, rfl⟩
 have hz3 := (Below.refl w2.heap.size w2).alloc (Nat.le_refl _) (.cells #[.string ⟨#[97, 108, 108, 111, 119, 101, 100]⟩, .int .i64 e.id, .int .i64 AE, .slice none 0 0, .bool false] 52)
 have HB3 := hid (HB2.out.trans (hz3.mono HB2.out.size))
 have HC3 : Hid ((w2.alloc (.cells #[.string ⟨#[97, 108, 108, 111, 119, 101, 100]⟩, .int .i64 e.id, .int .i64 AE, .slice none 0 0, .bool false] 52)).cell? ⟨w.heap.size, 0, none⟩ = some (.int .i64 e.id) ∧ (w2.alloc (.cells #[.string ⟨#[97, 108, 108, 111, 119, 101, 100]⟩, .int .i64 e.id, .int .i64 AE, .slice none 0 0, .bool false] 52)).rangeAt w.heap.size 0 X) := hid ⟨(hz3.cell (p := ⟨w.heap.size, 0, none⟩) (by show w.heap.size < w2.heap.size; omega)).trans HC2.out.1, range_keep HC2.out.2 (hz3.block _ (by omega))⟩
 have HRB3 := hid (HRB2.out.below hz3 HRB2.out.lt)
 clear hz3
 refine hK.out _ _ (HC3.out) (fun hHeld2 => ?_)
 clear hK K hHeld
 have hHeld := hHeld2
 clear hHeld2
 (try simp only [Act.put, List.getElem_toArray, List.getElem_cons_zero, List.getElem_cons_succ, List.setIfInBounds_toArray, List.set_cons_zero, List.set_cons_succ])
 refine wpAnyH_take (i := 8) (oi := _) (v := ?_) rfl (by kernel_rfl) (by kernel_rfl) (by kernel_rfl) (fun _ _ _ h => h) (Or.inl ⟨by kernel_rfl, ?_⟩) hHeld ?_
 rotate_left
 ·intro wq hSw
  go_simp
  (try with_reducible rfl)
 (try simp only [Act.put, List.getElem_toArray, List.getElem_cons_zero, List.getElem_cons_succ, List.setIfInBounds_toArray, List.set_cons_zero, List.set_cons_succ])
 refine wpAnyH_done (by kernel_rfl) ?_ _
 refine NoPanic.normal ?_
 have HS4 : Hid (ExS w w.heap.size (w.heap.size + 1) X (w2.alloc (.cells #[.string ⟨#[97, 108, 108, 111, 119, 101, 100]⟩, .int .i64 e.id, .int .i64 AE, .slice none 0 0, .bool false] 52)) w2.heap.size none ⟨#[97, 108, 108, 111, 119, 101, 100]⟩ e.id AE [] false) := hid ⟨HT3.out, HB3.out, HC3.out.2, HRB3.out, by omega⟩
 clear hHeld
 generalize w2.alloc (.cells #[.string ⟨#[97, 108, 108, 111, 119, 101, 100]⟩, .int .i64 e.id, .int .i64 AE, .slice none 0 0, .bool false] 52) = w4 at *
 generalize w2.heap.size = g at *
 clear HT3 HB3 HC3 HRB3 HC2 HRB2 HB2 hs2
 have HX0 : Hid (X[3]? = some (.int .i64 e.kind) ∧ X[2]? = some (.string (bstr e.sender))) := hid ⟨HX.out.c3, HX.out.c2⟩
 go_wp2_with fail
 refine (show Calls Tryz.prog 13 #[.slice A l.length cap, .int .i64 1, .slice none 0 0] w4 fun r w' => FoundA ok (Co.createOf l) r w' ∧ Below w4.heap.size w4 w' from first_any ok l A cap 1 w4 (HROW.out.bel HS4.out.b) hl).mono ?_
 rintro r w5 ⟨⟨V, rfl, hv⟩, hb5⟩
 have hvl := hv.len
 rw [Array.length_toList] at hvl
 have HSX : Hid ((Tryz.prog.info? 34).map (·.size) = some V.size) := hid (by rw [size_ev, hvl])
 have HSZ : Hid (zEv.size = V.size) := hid hvl.symm
 have HOV : Hid (V.all (·.oneCell') = true) := hid (by have := EvS.all hv; rwa [Array.toArray_toList] at this)
 have HN := hid (Blk.new w5 34 zEv)
 have HS6 := hid (HS4.out.bel (below_setRow (g := w5.heap.size) (hb5.alloc hb5.size (.cells zEv 34)) hb5.size V))
 clear hv hvl hb5
 go_upto_region 3 with (((with_reducible refine store_rowe rfl 34 _ _ rfl w5.heap.size V ?_ ?_ 34 zEv HN.out HSX.out HSZ.out HOV.out ?_); rfl; rfl))
 generalize (w5.alloc (.cells zEv 34)).setRow w5.heap.size V = w6 at *
 have hc3 : w6.cell? ⟨w.heap.size, 3, none⟩ = some (.int .i64 e.kind) := by have := HS6.out.e 3 _ HX0.out.1; rwa [Nat.zero_add] at this
 generalize hmade : (Co.createOf l).isSome = made at *
 have HMD := hid hmade
 clear hmade
 go_wp2_with fail
 refine (idof_any ok l A cap 1 w6 (HROW.out.bel HS6.out.b) hl).mono ?_
 rintro r w7 ⟨rfl, hb7⟩
 have HS7 := hid (HS6.out.bel hb7)
 clear hb7 hc3
 go_wp2_with fail
 refine (must_any g none ⟨#[97, 108, 108, 111, 119, 101, 100]⟩ e.id AE [] false [99, 114, 101, 97, 116, 105, 111, 110] (Co.idK l 1) made 17 w7 HS7.out.t (by simp)).mono ?_
 rintro r w8 hask
 obtain ⟨q8, hs8⟩ := HS7.out.ask hask
 obtain ⟨rfl, -⟩ := hask
 have HS8 := hid hs8
 clear hs8
 obtain ⟨ks1, hks1⟩ : ∃ k, k = askL [] false (Co.ask [99, 114, 101, 97, 116, 105, 111, 110] (Co.idK l 1) (!made) 17) := ⟨_, rfl⟩
 obtain ⟨d1, hd1⟩ : ∃ k, k = askD false (Co.ask [99, 114, 101, 97, 116, 105, 111, 110] (Co.idK l 1) (!made) 17) := ⟨_, rfl⟩
 rw [← hks1, ← hd1] at HS8
 have HK1 := hid (And.intro hks1 hd1)
 have hn1 : ks1.length ≤ 1 := by rw [hks1]; simp [askL]
 clear hks1 hd1
 have hc3 : w8.cell? ⟨w.heap.size, 3, none⟩ = some (.int .i64 e.kind) := by have := HS8.out.e 3 _ HX0.out.1; rwa [Nat.zero_add] at this
 go_wp2_with ((with_reducible refine wpList_load_mid rfl 34 _ rfl w.heap.size 0 ?_ X _ HS8.out.e Tryz.underlying34 ?_ HLE.out ?_); rfl; rfl)
 have hX8 := HX.out.bel HS8.out.b
 have hr8 := HROW.out.bel HS8.out.b
 rw [HOK.out] at hX8 hr8
 refine (member_any w.heap.size g q8 ⟨#[97, 108, 108, 111, 119, 101, 100]⟩ e.id AE ks1 d1 e X l A cap w8 HS8.out.t (by omega) hX8 hr8 HS8.out.lt.2.2 hl HLS.out HAL.out HPR.out).mono ?_
 clear hX8 hr8
 rintro r w15 hask
 obtain ⟨q15, hs15⟩ := HS8.out.asks hask
 obtain ⟨rfl, -⟩ := hask
 obtain ⟨ks3, hks3⟩ : ∃ k, k = (asksP (Co.memberR e l) ks1 d1).1 := ⟨_, rfl⟩
 obtain ⟨d3, hd3⟩ : ∃ k, k = (asksP (Co.memberR e l) ks1 d1).2 := ⟨_, rfl⟩
 rw [← hks3, ← hd3] at hs15
 have HS15 := hid hs15
 have HK3 := hid hks3
 clear hs15 hks3 hd3 hc3
 obtain ⟨kv, htb, hto, htq⟩ := HS15.out.t
 obtain ⟨A5, c5, rfl, -⟩ := hto.len
 have hrt : w15.rangeAt g 0 [.string ⟨#[97, 108, 108, 111, 119, 101, 100]⟩, .int .i64 e.id, .int .i64 AE, .slice A5 ks3.length c5] := fun j v hj => by
  have hj4 : j < 4 := (List.getElem?_eq_some_iff.1 hj).1
  rw [Nat.zero_add, htb.cell]
  match j, hj4, hj with
  | 0, _, hj => exact hj
  | 1, _, hj => exact hj
  | 2, _, hj => exact hj
  | 3, _, hj => exact hj
 have HL4 : Hid ((Tryz.prog.info? 42).map (·.size) = some ([.string ⟨#[97, 108, 108, 111, 119, 101, 100]⟩, .int .i64 e.id, .int .i64 AE, .slice A5 ks3.length c5] : List Value).length) := hid size_rea
 have HRT := hid hrt
 obtain ⟨A6, c6, e6, -, hrow6⟩ := hto.row (ok' := fun b => g + 1 ≤ b) (fun b h => h) (fun k hk => by
  obtain ⟨xs, h1, -⟩ := hto
  exact (h1.lt k hk).1)
 injection e6 with e6 _ e7
 subst e6 e7
 have hltr := HS15.out.lt
 have hrow7 := hrow6.keep (w' := w15.setRow (w.heap.size + 1) #[.string ⟨#[97, 108, 108, 111, 119, 101, 100]⟩, .int .i64 e.id, .int .i64 AE, .slice A5 ks3.length c5]) (ok' := fun b => w.heap.size ≤ b) (fun b hb _ => ⟨by omega, setRow_other _ _ _ _ (by omega)⟩)
 have HRW7 := hid hrow7
 have HRB15 := hid HS15.out.r
 clear hrt htb hto htq hrow6 hrow7
 go_wp2_with (first
  | ((with_reducible refine wpList_load_mid rfl 42 _ rfl g 0 ?_ [.string ⟨#[97, 108, 108, 111, 119, 101, 100]⟩, .int .i64 e.id, .int .i64 AE, .slice A5 ks3.length c5] _ HRT.out Tryz.underlying42 ?_ HL4.out ?_); rfl; rfl)
  | ((with_reducible refine store_rowb rfl 42 _ _ rfl (w.heap.size + 1) #[.string ⟨#[97, 108, 108, 111, 119, 101, 100]⟩, .int .i64 e.id, .int .i64 AE, .slice A5 ks3.length c5] ?_ ?_ 42 zRn HRB15.out size_rn ?_ (by simp [Value.oneCell']) ?_); rfl; rfl; rfl))
 have hks3 : ks3 = Co.upTo (Co.ask [99, 114, 101, 97, 116, 105, 111, 110] (Co.idK l 1) (Co.createOf l).isNone 17 :: Co.memberR e l) := by
  have h0 := ask_fold (Co.ask [99, 114, 101, 97, 116, 105, 111, 110] (Co.idK l 1) (Co.createOf l).isNone 17 :: Co.memberR e l) [] false
  simp only [List.foldl_cons, Bool.false_eq_true, if_false, List.nil_append] at h0
  have hmn : (Co.createOf l).isNone = !made := by rw [← HMD.out]; cases Co.createOf l <;> rfl
  rw [hmn, ← HK1.out.1, ← HK1.out.2] at h0
  rw [hmn]
  exact HK3.out.trans h0
 exact bodyPost_ret (results_cell_row rfl _ _ (w.heap.size + 1) 42 _ (0, 0) _ rfl (setRow_heap _ _ _ _ _ _ HRB15.out) Tryz.underlying42 rfl size_rn) rfl ⟨⟨_, rfl, by rw [HRU.out, ← hks3]; exact RnV.make HRW7.out.rn⟩, below_setRow HS15.out.b (Nat.le_succ _) _⟩
theorem pexp_k3 (ok : Nat → Prop) (e : Co.Ev) (X : List Value) (l : List Co.Ev) (A : Option Addr) (cap : Nat) (w : World) (hX : EvV ok w X e) (h : EvRow ok w A l) (hl : l.length ≤ 1000000) (hls : ∀ x ∈ l, x.users.length ≤ 1000000 ∧ x.kinds.length ≤ 1000000) (hes : e.users.length ≤ 1000000 ∧ e.kinds.length ≤ 1000000) (hk3 : e.kind = 3)
  (hA : ∀ W, Below w.heap.size w W → Calls Tryz.prog 11 #[.agg X.toArray, .slice A l.length cap] W fun r w' => r = .returned (.int .i64 (Co.allowedE e l)) ∧ Below W.heap.size W w') :
  Calls Tryz.prog 8 #[.agg X.toArray, .slice A l.length cap] w fun r w' => AllowA e l w.heap.size r w' ∧ Below w.heap.size w w' := by
 have hkb1 : (e.kind == 1) = false := by rw [hk3]; rfl
 have hkb2 : (e.kind == 2) = false := by rw [hk3]; rfl
 have hkb3 : (e.kind == 3) = true := eqb_true hk3
 have HRU : Hid (Co.allowedR e l = .mk [97, 108, 108, 111, 119, 101, 100] e.id (Co.allowedE e l) (Co.upTo [Co.ask [99, 114, 101, 97, 116, 105, 111, 110] (Co.idK l 1) (Co.createOf l).isNone 17, Co.ask [115, 101, 110, 100, 101, 114, 45, 106, 111, 105, 110, 101, 100] (Co.idM l e.sender) (!(Co.memOf l e.sender == 3)) 18, Co.ask [108, 101, 118, 101, 108] (Co.idK l 3) (!(decide (Co.needs (Co.levelsOf l) e.kind ≤ Co.userLv (Co.levelsOf l) e.sender))) 20, .mk [112, 111, 119, 101, 114, 45, 99, 104, 97, 110, 103, 101] (Co.idK l 3) (Co.changeE (Co.levelsOf l) (Co.lvOf e) e.sender) []])) := hid (by
  unfold Co.allowedR Co.rulesR
  rw [if_neg (by omega), if_neg (by omega), if_pos hk3]
  have hd : decide (Co.userLv (Co.levelsOf l) e.sender < Co.needs (Co.levelsOf l) e.kind) = !(decide (Co.needs (Co.levelsOf l) e.kind ≤ Co.userLv (Co.levelsOf l) e.sender)) := by
   rw [Bool.eq_iff_iff]
   simp
  rw [hd]
  rfl)
 have HES := hid hes
 obtain ⟨AE, hAE⟩ : ∃ AE, AE = Co.allowedE e l := ⟨_, rfl⟩
 rw [← hAE] at hA HRU
 have HX := hid hX
 have HROW := hid h
 have HA := hid hA
 have HLS := hid hls
 have hxl := hX.len
 have HLE : Hid ((Tryz.prog.info? 34).map (·.size) = some X.length) := hid (by rw [size_ev, hxl])
 have hk0 := (Blk.new w 34 X.toArray).alloc (.cells zRn 42)
 have hr0 := Blk.new (w.alloc (.cells X.toArray 34)) 42 zRn
 rw [World.size_alloc] at hr0
 have hb1 := ((Below.refl w.heap.size w).alloc (Nat.le_refl _) (.cells X.toArray 34)).alloc (by rw [World.size_alloc]; omega) (.cells zRn 42)
 have HC1 : Hid (((w.alloc (.cells X.toArray 34)).alloc (.cells zRn 42)).drew.cell? ⟨w.heap.size, 0, none⟩ = some (.int .i64 e.id) ∧ ((w.alloc (.cells X.toArray 34)).alloc (.cells zRn 42)).drew.rangeAt w.heap.size 0 X) := hid ⟨(hk0.cell 0).trans (by rw [List.getElem?_toArray]; exact hX.c0), range_of_blk hk0⟩
 have HB1d : Hid (Below w.heap.size w ((w.alloc (.cells X.toArray 34)).alloc (.cells zRn 42)).drew) := hid hb1.drew
 have HRB := hid hr0
 have hs1 : w.heap.size < ((w.alloc (.cells X.toArray 34)).alloc (.cells zRn 42)).heap.size := by rw [World.size_alloc, World.size_alloc]; omega
 clear hX h hA hls hxl hk0 hr0 hb1 hAE hes hk3
 generalize hw1 : (w.alloc (.cells X.toArray 34)).alloc (.cells zRn 42) = w1 at *
 go_enter Tryz.func8, Tryz.ntmps8
 go_wp2_with fail
 refine wp_region_noPanic ?_
 refine wp_region_held_drew (S := fun W => W.cell? ⟨w.heap.size, 0, none⟩ = some (.int .i64 e.id) ∧ W.rangeAt w.heap.size 0 X) (by kernel_rfl) (HC1.out) (fun hHeld => ?_)
 refine wpAnyH_take (i := 0) (oi := _) (v := ?_) rfl (by kernel_rfl) (by kernel_rfl) (by kernel_rfl) (fun _ _ _ h => h) (Or.inl ⟨by kernel_rfl, ?_⟩) hHeld ?_
 rotate_left
 ·intro wq hSw
  go_simp
  (try with_reducible rfl)
 (try simp only [Act.put, List.getElem_toArray, List.getElem_cons_zero, List.getElem_cons_succ, List.setIfInBounds_toArray, List.set_cons_zero, List.set_cons_succ])
 refine wpAnyH_take (i := 1) (oi := _) (v := ?_) rfl (by kernel_rfl) (by kernel_rfl) (by kernel_rfl) (fun _ _ _ h => h) (Or.inl ⟨by kernel_rfl, ?_⟩) hHeld ?_
 rotate_left
 ·intro wq hSw
  have hSw1 := hSw.1
  go_simp
  (try with_reducible rfl)
 (try simp only [Act.put, List.getElem_toArray, List.getElem_cons_zero, List.getElem_cons_succ, List.setIfInBounds_toArray, List.set_cons_zero, List.set_cons_succ])
 refine wpAnyH_take (i := 2) (oi := _) (v := _) rfl (by kernel_rfl) (by kernel_rfl) (by kernel_rfl) (fun _ _ _ h => h) (mid_yields rfl Tryz.underlying34 HLE.out (fun W h => by exact h.2) (by kernel_rfl) _ rfl rfl) hHeld ?_
 (try simp only [Act.put, List.getElem_toArray, List.getElem_cons_zero, List.getElem_cons_succ, List.setIfInBounds_toArray, List.set_cons_zero, List.set_cons_succ])
 refine wpAnyH_take (i := 3) (oi := _) (v := ?_) rfl (by kernel_rfl) (by kernel_rfl) (by kernel_rfl) (fun _ _ _ h => h) (Or.inl ⟨by kernel_rfl, ?_⟩) hHeld ?_
 rotate_left
 ·intro wq hSw
  go_simp
  (try with_reducible rfl)
 (try simp only [Act.put, List.getElem_toArray, List.getElem_cons_zero, List.getElem_cons_succ, List.setIfInBounds_toArray, List.set_cons_zero, List.set_cons_succ])
 refine wpAnyH_ready (rs := [4]) (by kernel_rfl) (by simp) ?_
 refine AllReadyH.cons (o := _) rfl (fun K hK => ?_) AllReadyH.nil
 go_simp
 go_at_call 11
 refine (HA.out w1.drew HB1d.out).mono ?_
 rintro r w2 ⟨rfl, hb2⟩
 have HB2 := hid (HB1d.out.trans (hb2.mono HB1d.out.size))
 have HC2 : Hid (w2.cell? ⟨w.heap.size, 0, none⟩ = some (.int .i64 e.id) ∧ w2.rangeAt w.heap.size 0 X) := hid ⟨(hb2.cell (p := ⟨w.heap.size, 0, none⟩) hs1).trans HC1.out.1, range_keep HC1.out.2 (hb2.block _ hs1)⟩
 have HRB2 := hid (HRB.out.below (show Below w1.heap.size w1 w2 from (Below.refl w1.heap.size w1).drew.trans hb2) HRB.out.lt)
 have hs2 : w.heap.size + 1 < w2.heap.size := HRB2.out.lt
 clear hb2
 refine hK.out _ _ (HC2.out) (fun hHeld2 => ?_)
 clear hK K hHeld
 have hHeld := hHeld2
 clear hHeld2
 (try simp only [Act.put, List.getElem_toArray, List.getElem_cons_zero, List.getElem_cons_succ, List.setIfInBounds_toArray, List.set_cons_zero, List.set_cons_succ])
 refine wpAnyH_take (i := 5) (oi := _) (v := ?_) rfl (by kernel_rfl) (by kernel_rfl) (by kernel_rfl) (fun _ _ _ h => h) (Or.inl ⟨by kernel_rfl, ?_⟩) hHeld ?_
 rotate_left
 ·intro wq hSw
  go_simp
  (try with_reducible rfl)
 (try simp only [Act.put, List.getElem_toArray, List.getElem_cons_zero, List.getElem_cons_succ, List.setIfInBounds_toArray, List.set_cons_zero, List.set_cons_succ])
 refine wpAnyH_take (i := 6) (oi := _) (v := ?_) rfl (by kernel_rfl) (by kernel_rfl) (by kernel_rfl) (fun _ _ _ h => h) (Or.inl ⟨by kernel_rfl, ?_⟩) hHeld ?_
 rotate_left
 ·intro wq hSw
  go_simp
  (try with_reducible rfl)
 (try simp only [Act.put, List.getElem_toArray, List.getElem_cons_zero, List.getElem_cons_succ, List.setIfInBounds_toArray, List.set_cons_zero, List.set_cons_succ])
 refine wpAnyH_ready (rs := [7]) (by kernel_rfl) (by simp) ?_
 refine AllReadyH.cons (o := _) rfl (fun K hK => ?_) AllReadyH.nil
 go_simp
 have HT3 : Hid (TrS (w2.alloc (.cells #[.string ⟨#[97, 108, 108, 111, 119, 101, 100]⟩, .int .i64 e.id, .int .i64 AE, .slice none 0 0, .bool false] 52)) w2.heap.size none ⟨#[97, 108, 108, 111, 119, 101, 100]⟩ e.id AE [] false) := hid ⟨_, Blk.new w2 52 _, Shp.Own.nil, rfl⟩
 have hz3 := (Below.refl w2.heap.size w2).alloc (Nat.le_refl _) (.cells #[.string ⟨#[97, 108, 108, 111, 119, 101, 100]⟩, .int .i64 e.id, .int .i64 AE, .slice none 0 0, .bool false] 52)
 have HB3 := hid (HB2.out.trans (hz3.mono HB2.out.size))
 have HC3 : Hid ((w2.alloc (.cells #[.string ⟨#[97, 108, 108, 111, 119, 101, 100]⟩, .int .i64 e.id, .int .i64 AE, .slice none 0 0, .bool false] 52)).cell? ⟨w.heap.size, 0, none⟩ = some (.int .i64 e.id) ∧ (w2.alloc (.cells #[.string ⟨#[97, 108, 108, 111, 119, 101, 100]⟩, .int .i64 e.id, .int .i64 AE, .slice none 0 0, .bool false] 52)).rangeAt w.heap.size 0 X) := hid ⟨(hz3.cell (p := ⟨w.heap.size, 0, none⟩) (by show w.heap.size < w2.heap.size; omega)).trans HC2.out.1, range_keep HC2.out.2 (hz3.block _ (by omega))⟩
 have HRB3 := hid (HRB2.out.below hz3 HRB2.out.lt)
 clear hz3
 refine hK.out _ _ (HC3.out) (fun hHeld2 => ?_)
 clear hK K hHeld
 have hHeld := hHeld2
 clear hHeld2
 (try simp only [Act.put, List.getElem_toArray, List.getElem_cons_zero, List.getElem_cons_succ, List.setIfInBounds_toArray, List.set_cons_zero, List.set_cons_succ])
 refine wpAnyH_take (i := 8) (oi := _) (v := ?_) rfl (by kernel_rfl) (by kernel_rfl) (by kernel_rfl) (fun _ _ _ h => h) (Or.inl ⟨by kernel_rfl, ?_⟩) hHeld ?_
 rotate_left
 ·intro wq hSw
  go_simp
  (try with_reducible rfl)
 (try simp only [Act.put, List.getElem_toArray, List.getElem_cons_zero, List.getElem_cons_succ, List.setIfInBounds_toArray, List.set_cons_zero, List.set_cons_succ])
 refine wpAnyH_done (by kernel_rfl) ?_ _
 refine NoPanic.normal ?_
 have HS4 : Hid (ExS w w.heap.size (w.heap.size + 1) X (w2.alloc (.cells #[.string ⟨#[97, 108, 108, 111, 119, 101, 100]⟩, .int .i64 e.id, .int .i64 AE, .slice none 0 0, .bool false] 52)) w2.heap.size none ⟨#[97, 108, 108, 111, 119, 101, 100]⟩ e.id AE [] false) := hid ⟨HT3.out, HB3.out, HC3.out.2, HRB3.out, by omega⟩
 clear hHeld
 generalize w2.alloc (.cells #[.string ⟨#[97, 108, 108, 111, 119, 101, 100]⟩, .int .i64 e.id, .int .i64 AE, .slice none 0 0, .bool false] 52) = w4 at *
 generalize w2.heap.size = g at *
 clear HT3 HB3 HC3 HRB3 HC2 HRB2 HB2 hs2
 have HX0 : Hid (X[3]? = some (.int .i64 e.kind) ∧ X[2]? = some (.string (bstr e.sender))) := hid ⟨HX.out.c3, HX.out.c2⟩
 go_wp2_with fail
 refine (show Calls Tryz.prog 13 #[.slice A l.length cap, .int .i64 1, .slice none 0 0] w4 fun r w' => FoundA ok (Co.createOf l) r w' ∧ Below w4.heap.size w4 w' from first_any ok l A cap 1 w4 (HROW.out.bel HS4.out.b) hl).mono ?_
 rintro r w5 ⟨⟨V, rfl, hv⟩, hb5⟩
 have hvl := hv.len
 rw [Array.length_toList] at hvl
 have HSX : Hid ((Tryz.prog.info? 34).map (·.size) = some V.size) := hid (by rw [size_ev, hvl])
 have HSZ : Hid (zEv.size = V.size) := hid hvl.symm
 have HOV : Hid (V.all (·.oneCell') = true) := hid (by have := EvS.all hv; rwa [Array.toArray_toList] at this)
 have HN := hid (Blk.new w5 34 zEv)
 have HS6 := hid (HS4.out.bel (below_setRow (g := w5.heap.size) (hb5.alloc hb5.size (.cells zEv 34)) hb5.size V))
 clear hv hvl hb5
 go_upto_region 3 with (((with_reducible refine store_rowe rfl 34 _ _ rfl w5.heap.size V ?_ ?_ 34 zEv HN.out HSX.out HSZ.out HOV.out ?_); rfl; rfl))
 generalize (w5.alloc (.cells zEv 34)).setRow w5.heap.size V = w6 at *
 have hc3 : w6.cell? ⟨w.heap.size, 3, none⟩ = some (.int .i64 e.kind) := by have := HS6.out.e 3 _ HX0.out.1; rwa [Nat.zero_add] at this
 generalize hmade : (Co.createOf l).isSome = made at *
 have HMD := hid hmade
 clear hmade
 go_wp2_with fail
 refine (idof_any ok l A cap 1 w6 (HROW.out.bel HS6.out.b) hl).mono ?_
 rintro r w7 ⟨rfl, hb7⟩
 have HS7 := hid (HS6.out.bel hb7)
 clear hb7 hc3
 go_wp2_with fail
 refine (must_any g none ⟨#[97, 108, 108, 111, 119, 101, 100]⟩ e.id AE [] false [99, 114, 101, 97, 116, 105, 111, 110] (Co.idK l 1) made 17 w7 HS7.out.t (by simp)).mono ?_
 rintro r w8 hask
 obtain ⟨q8, hs8⟩ := HS7.out.ask hask
 obtain ⟨rfl, -⟩ := hask
 have HS8 := hid hs8
 clear hs8
 obtain ⟨ks1, hks1⟩ : ∃ k, k = askL [] false (Co.ask [99, 114, 101, 97, 116, 105, 111, 110] (Co.idK l 1) (!made) 17) := ⟨_, rfl⟩
 obtain ⟨d1, hd1⟩ : ∃ k, k = askD false (Co.ask [99, 114, 101, 97, 116, 105, 111, 110] (Co.idK l 1) (!made) 17) := ⟨_, rfl⟩
 rw [← hks1, ← hd1] at HS8
 have HK1 := hid (And.intro hks1 hd1)
 have hn1 : ks1.length ≤ 1 := by rw [hks1]; simp [askL]
 clear hks1 hd1
 have hc3 : w8.cell? ⟨w.heap.size, 3, none⟩ = some (.int .i64 e.kind) := by have := HS8.out.e 3 _ HX0.out.1; rwa [Nat.zero_add] at this
 go_wp2_with ((with_reducible refine wpList_load_mid rfl 34 _ rfl w.heap.size 0 ?_ X _ HS8.out.e Tryz.underlying34 ?_ HLE.out ?_); rfl; rfl)
 refine (sender_any ok g q8 ⟨#[97, 108, 108, 111, 119, 101, 100]⟩ e.id AE ks1 d1 e X l A cap w8 HS8.out.t (by omega) (HX.out.bel HS8.out.b) (HROW.out.bel HS8.out.b) hl).mono ?_
 rintro r w9 hask
 obtain ⟨q9, hs9⟩ := HS8.out.ask hask
 obtain ⟨rfl, -⟩ := hask
 have HS9 := hid hs9
 clear hs9 hc3
 obtain ⟨ks2, hks2⟩ : ∃ k, k = askL ks1 d1 (Co.ask [115, 101, 110, 100, 101, 114, 45, 106, 111, 105, 110, 101, 100] (Co.idM l e.sender) (!(Co.memOf l e.sender == 3)) 18) := ⟨_, rfl⟩
 obtain ⟨d2, hd2⟩ : ∃ k, k = askD d1 (Co.ask [115, 101, 110, 100, 101, 114, 45, 106, 111, 105, 110, 101, 100] (Co.idM l e.sender) (!(Co.memOf l e.sender == 3)) 18) := ⟨_, rfl⟩
 rw [← hks2, ← hd2] at HS9
 have HK2 := hid (And.intro hks2 hd2)
 have hn2 : ks2.length ≤ 2 := by rw [hks2]; unfold askL; split; omega; simp; omega
 clear hks2 hd2
 go_wp2_with fail
 refine (lvof_any ok l A cap w9 (HROW.out.bel HS9.out.b) hl HLS.out).mono ?_
 rintro r w10 ⟨⟨Y, rfl, hy⟩, hb10⟩
 have HY := hid hy
 have HSY : Hid ((Tryz.prog.info? 28).map (·.size) = some Y.toArray.size) := hid (by rw [size_lv, List.size_toArray, hy.len])
 have HLY : Hid ((Tryz.prog.info? 28).map (·.size) = some Y.length) := hid (by rw [size_lv, hy.len])
 have HZY : Hid (zLv.size = Y.toArray.size) := hid (by show 9 = Y.toArray.size; rw [List.size_toArray, hy.len])
 have HOY : Hid (Y.toArray.all (·.oneCell') = true) := hid (all_oneCell_toArray hy.one)
 have HNY := hid (Blk.new w10 28 zLv)
 have hb11 := below_setRow (g := w10.heap.size) ((Below.refl w10.heap.size w10).alloc (Nat.le_refl _) (.cells zLv 28)) (Nat.le_refl _) Y.toArray
 have HS11 := hid ((HS9.out.bel hb10).bel hb11)
 have HY11 := hid (hy.bel hb11)
 have HVB : Hid (Blk ((w10.alloc (.cells zLv 28)).setRow w10.heap.size Y.toArray) w10.heap.size 28 Y.toArray) := hid (setRow_heap _ _ _ _ _ _ HNY.out)
 have hvg : g < w10.heap.size := Nat.lt_of_lt_of_le HS9.out.t.lt hb10.size
 have hvq : some w10.heap.size ≠ q9 := fun e => by have := HS9.out.t.own _ e.symm; have h9 := hb10.size; omega
 clear hy hb10 hb11
 go_upto_region 13 with (((with_reducible refine store_rowe rfl 28 _ _ rfl w10.heap.size Y.toArray ?_ ?_ 28 zLv HNY.out HSY.out HZY.out HOY.out ?_); rfl; rfl))
 generalize (w10.alloc (.cells zLv 28)).setRow w10.heap.size Y.toArray = w11 at *
 generalize w10.heap.size = vb at *
 have HCI : ∀ W g q ks d, ExS w w.heap.size (w.heap.size + 1) X W g q ⟨#[97, 108, 108, 111, 119, 101, 100]⟩ e.id AE ks d → W.cell? ⟨w.heap.size, 2, none⟩ = some (.string (bstr e.sender)) ∧ W.cell? ⟨w.heap.size, 3, none⟩ = some (.int .i64 e.kind) := fun W g q ks d h => ⟨by have := h.e 2 _ HX0.out.2; rwa [Nat.zero_add] at this, by have := h.e 3 _ HX0.out.1; rwa [Nat.zero_add] at this⟩
 have HCJ := hid HCI
 clear HCI
 have hC0 : w11.drew.rangeAt vb 0 Y ∧ w11.drew.cell? ⟨w.heap.size, 2, none⟩ = some (.string (bstr e.sender)) ∧ w11.drew.cell? ⟨w.heap.size, 3, none⟩ = some (.int .i64 e.kind) := ⟨range_of_blk HVB.out, (HCJ.out w11 _ _ _ _ HS11.out).1, (HCJ.out w11 _ _ _ _ HS11.out).2⟩
 have hbd := (Below.refl w11.heap.size w11).drew
 have HS11d := hid (HS11.out.bel hbd)
 have HVB11d := hid (HVB.out.below hbd HVB.out.lt)
 have HY11d := hid (HY11.out.bel hbd)
 clear hbd
 refine wp_region_noPanic ?_
 refine wp_region_held_drew (S := fun W => W.rangeAt vb 0 Y ∧ W.cell? ⟨w.heap.size, 2, none⟩ = some (.string (bstr e.sender)) ∧ W.cell? ⟨w.heap.size, 3, none⟩ = some (.int .i64 e.kind)) (by kernel_rfl) (hC0) (fun hHeld => ?_)
 refine wpAnyH_take (i := 0) (oi := _) (v := ?_) rfl (by kernel_rfl) (by kernel_rfl) (by kernel_rfl) (fun _ _ _ h => h) (Or.inl ⟨by kernel_rfl, ?_⟩) hHeld ?_
 rotate_left
 ·intro wq hSw
  go_simp
  (try with_reducible rfl)
 (try simp only [Act.put, List.getElem_toArray, List.getElem_cons_zero, List.getElem_cons_succ, List.setIfInBounds_toArray, List.set_cons_zero, List.set_cons_succ])
 refine wpAnyH_take (i := 1) (oi := _) (v := ?_) rfl (by kernel_rfl) (by kernel_rfl) (by kernel_rfl) (fun _ _ _ h => h) (Or.inl ⟨by kernel_rfl, ?_⟩) hHeld ?_
 rotate_left
 ·intro wq hSw
  go_simp
  (try with_reducible rfl)
 (try simp only [Act.put, List.getElem_toArray, List.getElem_cons_zero, List.getElem_cons_succ, List.setIfInBounds_toArray, List.set_cons_zero, List.set_cons_succ])
 refine wpAnyH_take (i := 3) (oi := _) (v := _) rfl (by kernel_rfl) (by kernel_rfl) (by kernel_rfl) (fun _ _ _ h => h) (mid_yields rfl Tryz.underlying28 HLY.out (fun W h => by exact h.1) (by kernel_rfl) _ rfl rfl) hHeld ?_
 (try simp only [Act.put, List.getElem_toArray, List.getElem_cons_zero, List.getElem_cons_succ, List.setIfInBounds_toArray, List.set_cons_zero, List.set_cons_succ])
 refine wpAnyH_take (i := 4) (oi := _) (v := ?_) rfl (by kernel_rfl) (by kernel_rfl) (by kernel_rfl) (fun _ _ _ h => h) (Or.inl ⟨by kernel_rfl, ?_⟩) hHeld ?_
 rotate_left
 ·intro wq hSw
  go_simp
  (try with_reducible rfl)
 (try simp only [Act.put, List.getElem_toArray, List.getElem_cons_zero, List.getElem_cons_succ, List.setIfInBounds_toArray, List.set_cons_zero, List.set_cons_succ])
 refine wpAnyH_take (i := 5) (oi := _) (v := ?_) rfl (by kernel_rfl) (by kernel_rfl) (by kernel_rfl) (fun _ _ _ h => h) (Or.inl ⟨by kernel_rfl, ?_⟩) hHeld ?_
 rotate_left
 ·intro wq hSw
  have hSw1 := hSw.2.1
  have hSw2 := hSw.2.2
  clear hSw
  go_simp
  (try with_reducible rfl)
 (try simp only [Act.put, List.getElem_toArray, List.getElem_cons_zero, List.getElem_cons_succ, List.setIfInBounds_toArray, List.set_cons_zero, List.set_cons_succ])
 refine wpAnyH_take (i := 7) (oi := _) (v := _) rfl (by kernel_rfl) (by kernel_rfl) (by kernel_rfl) (fun _ _ _ h => h) (mid_yields rfl Tryz.underlying28 HLY.out (fun W h => by exact h.1) (by kernel_rfl) _ rfl rfl) hHeld ?_
 (try simp only [Act.put, List.getElem_toArray, List.getElem_cons_zero, List.getElem_cons_succ, List.setIfInBounds_toArray, List.set_cons_zero, List.set_cons_succ])
 refine wpAnyH_take (i := 8) (oi := _) (v := ?_) rfl (by kernel_rfl) (by kernel_rfl) (by kernel_rfl) (fun _ _ _ h => h) (Or.inl ⟨by kernel_rfl, ?_⟩) hHeld ?_
 rotate_left
 ·intro wq hSw
  go_simp
  (try with_reducible rfl)
 (try simp only [Act.put, List.getElem_toArray, List.getElem_cons_zero, List.getElem_cons_succ, List.setIfInBounds_toArray, List.set_cons_zero, List.set_cons_succ])
 refine wpAnyH_take (i := 9) (oi := _) (v := ?_) rfl (by kernel_rfl) (by kernel_rfl) (by kernel_rfl) (fun _ _ _ h => h) (Or.inl ⟨by kernel_rfl, ?_⟩) hHeld ?_
 rotate_left
 ·intro wq hSw
  have hSw1 := hSw.2.1
  have hSw2 := hSw.2.2
  clear hSw
  go_simp
  (try with_reducible rfl)
 (try simp only [Act.put, List.getElem_toArray, List.getElem_cons_zero, List.getElem_cons_succ, List.setIfInBounds_toArray, List.set_cons_zero, List.set_cons_succ])
 refine wpAnyH_ready (rs := [2]) (by kernel_rfl) (by simp) ?_
 refine AllReadyH.cons (o := _) rfl (fun K hK => ?_) AllReadyH.nil
 go_simp
 go_at_call 15
 refine (idof_any ok l A cap 3 w11.drew (HROW.out.bel HS11d.out.b) hl).mono ?_
 rintro r w12 ⟨rfl, hb⟩
 have HS12 := hid (HS11d.out.bel hb)
 have HVB12 := hid (HVB11d.out.below hb HVB11d.out.lt)
 have HY12 := hid (HY11d.out.bel hb)
 clear hb
 refine hK.out _ _ (⟨range_of_blk HVB12.out, HCJ.out _ _ _ _ _ HS12.out⟩) (fun hHeld2 => ?_)
 clear hK K hHeld
 have hHeld := hHeld2
 clear hHeld2
 (try simp only [Act.put, List.getElem_toArray, List.getElem_cons_zero, List.getElem_cons_succ, List.setIfInBounds_toArray, List.set_cons_zero, List.set_cons_succ])
 refine wpAnyH_ready (rs := [6]) (by kernel_rfl) (by simp) ?_
 refine AllReadyH.cons (o := _) rfl (fun K hK => ?_) AllReadyH.nil
 go_simp
 go_at_call 20
 refine (lvuser_any _ (Co.levelsOf l) Y e.sender w12 HY12.out (lv_small HLS.out).1).mono ?_
 rintro r w13 ⟨rfl, hb⟩
 have HS13 := hid (HS12.out.bel hb)
 have HVB13 := hid (HVB12.out.below hb HVB12.out.lt)
 have HY13 := hid (HY12.out.bel hb)
 clear hb
 refine hK.out _ _ (⟨range_of_blk HVB13.out, HCJ.out _ _ _ _ _ HS13.out⟩) (fun hHeld2 => ?_)
 clear hK K hHeld
 have hHeld := hHeld2
 clear hHeld2
 (try simp only [Act.put, List.getElem_toArray, List.getElem_cons_zero, List.getElem_cons_succ, List.setIfInBounds_toArray, List.set_cons_zero, List.set_cons_succ])
 refine wpAnyH_ready (rs := [10]) (by kernel_rfl) (by simp) ?_
 refine AllReadyH.cons (o := _) rfl (fun K hK => ?_) AllReadyH.nil
 go_simp
 go_at_call 21
 refine (needs_any _ (Co.levelsOf l) Y e.kind w13 HY13.out (lv_small HLS.out).2).mono ?_
 rintro r w14 ⟨rfl, hb⟩
 have HS14 := hid (HS13.out.bel hb)
 have HVB14 := hid (HVB13.out.below hb HVB13.out.lt)
 have HY14 := hid (HY13.out.bel hb)
 clear hb
 refine hK.out _ _ (⟨range_of_blk HVB14.out, HCJ.out _ _ _ _ _ HS14.out⟩) (fun hHeld2 => ?_)
 clear hK K hHeld
 have hHeld := hHeld2
 clear hHeld2
 (try simp only [Act.put, List.getElem_toArray, List.getElem_cons_zero, List.getElem_cons_succ, List.setIfInBounds_toArray, List.set_cons_zero, List.set_cons_succ])
 refine wpAnyH_take (i := 11) (oi := _) (v := ?_) rfl (by kernel_rfl) (by kernel_rfl) (by kernel_rfl) (fun _ _ _ h => h) (Or.inl ⟨by kernel_rfl, ?_⟩) hHeld ?_
 rotate_left
 ·intro wq hSw
  go_simp
  (try with_reducible rfl)
 (try simp only [Act.put, List.getElem_toArray, List.getElem_cons_zero, List.getElem_cons_succ, List.setIfInBounds_toArray, List.set_cons_zero, List.set_cons_succ])
 have HM := hid (must_any g q9 ⟨#[97, 108, 108, 111, 119, 101, 100]⟩ e.id AE ks2 d2 [108, 101, 118, 101, 108] (Co.idK l 3) (decide (Co.needs (Co.levelsOf l) e.kind ≤ Co.userLv (Co.levelsOf l) e.sender)) 20 w14 HS14.out.t (by omega))
 refine wpAnyH_ready (rs := [12]) (by kernel_rfl) (by simp) ?_
 refine AllReadyH.cons (o := _) rfl (fun K hK => ?_) AllReadyH.nil
 go_simp
 go_at_call 14
 refine HM.out.mono ?_
 rintro r w16 hask
 obtain ⟨q15, hs15, hpk⟩ := HS14.out.ask2 hask
 obtain ⟨rfl, -⟩ := hask
 have HS16 := hid hs15
 obtain ⟨ks4, hks4⟩ : ∃ k, k = askL ks2 d2 (Co.ask [108, 101, 118, 101, 108] (Co.idK l 3) (!(decide (Co.needs (Co.levelsOf l) e.kind ≤ Co.userLv (Co.levelsOf l) e.sender))) 20) := ⟨_, rfl⟩
 obtain ⟨d4, hd4⟩ : ∃ k, k = askD d2 (Co.ask [108, 101, 118, 101, 108] (Co.idK l 3) (!(decide (Co.needs (Co.levelsOf l) e.kind ≤ Co.userLv (Co.levelsOf l) e.sender))) 20) := ⟨_, rfl⟩
 rw [← hks4, ← hd4] at HS16
 have HK4 := hid hd4
 have HN4 : Hid (ks4.length ≤ 3) := hid (by rw [hks4]; exact Nat.le_trans (askL_len _ _ _) (by omega))
 have HVQ := hid (hpk.apart HVB14.out.lt hvq)
 have HY16 := hid (HY14.out.keep (w' := w16) (ok' := fun _ => True) fun b hb hlt => ⟨trivial, hpk.block b hlt (by have := HS9.out.t.lt; have h9 : w9.heap.size ≤ b := hb; omega) (fun e => by have := HS9.out.t.own _ e.symm; have h9 : w9.heap.size ≤ b := hb; omega)⟩)
 have HK3 := hid hks4
 have HVB16 := hid ((hpk.block vb HVB14.out.lt (by omega) hvq).trans HVB14.out)
 clear hks4 hd4 hs15 hpk
 refine hK.out _ _ (⟨range_of_blk HVB16.out, HCJ.out _ _ _ _ _ HS16.out⟩) (fun hHeld2 => ?_)
 clear hK K hHeld
 have hHeld := hHeld2
 clear hHeld2
 (try simp only [Act.put, List.getElem_toArray, List.getElem_cons_zero, List.getElem_cons_succ, List.setIfInBounds_toArray, List.set_cons_zero, List.set_cons_succ])
 refine wpAnyH_done (by kernel_rfl) ?_ _
 refine NoPanic.normal ?_
 have hc3 : w16.cell? ⟨w.heap.size, 3, none⟩ = some (.int .i64 e.kind) := (HCJ.out _ _ _ _ _ HS16.out).2
 obtain ⟨Z, hzr, hz⟩ := ev_lv_all (HX.out.bel HS16.out.b)
 have HZ16 := hid hz
 have HLZ : Hid ((Tryz.prog.info? 28).map (·.size) = some Z.length) := hid (by rw [size_lv, hz.len])
 have HCI2 : ∀ W g q ks d, ExS w w.heap.size (w.heap.size + 1) X W g q ⟨#[97, 108, 108, 111, 119, 101, 100]⟩ e.id AE ks d → W.cell? ⟨w.heap.size, 2, none⟩ = some (.string (bstr e.sender)) ∧ W.rangeAt w.heap.size 17 Z := fun W g q ks d h => ⟨by have := h.e 2 _ HX0.out.2; rwa [Nat.zero_add] at this, hzr W _ h.e⟩
 have HCK := hid HCI2
 clear HCI2 hzr hz
 go_upto_region 15 with fail
 have hbd := (Below.refl w16.heap.size w16).drew
 have HS16d := hid (HS16.out.bel hbd)
 have hvb16 : Blk w16 vb 28 Y.toArray := HVB16.out
 have HVB16d := hid (hvb16.below hbd hvb16.lt)
 clear hvb16
 have HY16d := hid (HY16.out.bel hbd)
 have HZ16d := hid (HZ16.out.bel hbd)
 clear hbd
 have hC1 := HCK.out _ _ _ _ _ HS16d.out
 refine wp_region_noPanic ?_
 refine wp_region_held_drew (S := fun W => W.rangeAt vb 0 Y ∧ W.cell? ⟨w.heap.size, 2, none⟩ = some (.string (bstr e.sender)) ∧ W.rangeAt w.heap.size 17 Z) (by kernel_rfl) (⟨range_of_blk HVB16d.out, hC1⟩) (fun hHeld => ?_)
 clear hC1
 generalize hw16d : w16.drew = w16d at *
 clear hw16d
 refine wpAnyH_take (i := 0) (oi := _) (v := ?_) rfl (by kernel_rfl) (by kernel_rfl) (by kernel_rfl) (fun _ _ _ h => h) (Or.inl ⟨by kernel_rfl, ?_⟩) hHeld ?_
 rotate_left
 ·intro wq hSw
  go_simp
  (try with_reducible rfl)
 (try simp only [Act.put, List.getElem_toArray, List.getElem_cons_zero, List.getElem_cons_succ, List.setIfInBounds_toArray, List.set_cons_zero, List.set_cons_succ])
 refine wpAnyH_take (i := 1) (oi := _) (v := ?_) rfl (by kernel_rfl) (by kernel_rfl) (by kernel_rfl) (fun _ _ _ h => h) (Or.inl ⟨by kernel_rfl, ?_⟩) hHeld ?_
 rotate_left
 ·intro wq hSw
  go_simp
  (try with_reducible rfl)
 (try simp only [Act.put, List.getElem_toArray, List.getElem_cons_zero, List.getElem_cons_succ, List.setIfInBounds_toArray, List.set_cons_zero, List.set_cons_succ])
 refine wpAnyH_take (i := 3) (oi := _) (v := _) rfl (by kernel_rfl) (by kernel_rfl) (by kernel_rfl) (fun _ _ _ h => h) (mid_yields rfl Tryz.underlying28 HLY.out (fun W h => by exact h.1) (by kernel_rfl) _ rfl rfl) hHeld ?_
 (try simp only [Act.put, List.getElem_toArray, List.getElem_cons_zero, List.getElem_cons_succ, List.setIfInBounds_toArray, List.set_cons_zero, List.set_cons_succ])
 refine wpAnyH_take (i := 4) (oi := _) (v := ?_) rfl (by kernel_rfl) (by kernel_rfl) (by kernel_rfl) (fun _ _ _ h => h) (Or.inl ⟨by kernel_rfl, ?_⟩) hHeld ?_
 rotate_left
 ·intro wq hSw
  go_simp
  (try with_reducible rfl)
 (try simp only [Act.put, List.getElem_toArray, List.getElem_cons_zero, List.getElem_cons_succ, List.setIfInBounds_toArray, List.set_cons_zero, List.set_cons_succ])
 refine wpAnyH_take (i := 5) (oi := _) (v := ?_) rfl (by kernel_rfl) (by kernel_rfl) (by kernel_rfl) (fun _ _ _ h => h) (Or.inl ⟨by kernel_rfl, ?_⟩) hHeld ?_
 rotate_left
 ·intro wq hSw
  go_simp
  (try with_reducible rfl)
 (try simp only [Act.put, List.getElem_toArray, List.getElem_cons_zero, List.getElem_cons_succ, List.setIfInBounds_toArray, List.set_cons_zero, List.set_cons_succ])
 refine wpAnyH_take (i := 6) (oi := _) (v := _) rfl (by kernel_rfl) (by kernel_rfl) (by kernel_rfl) (fun _ _ _ h => h) (mid_yields rfl Tryz.underlying28 HLZ.out (fun W h => by exact h.2.2) (by kernel_rfl) _ rfl rfl) hHeld ?_
 (try simp only [Act.put, List.getElem_toArray, List.getElem_cons_zero, List.getElem_cons_succ, List.setIfInBounds_toArray, List.set_cons_zero, List.set_cons_succ])
 refine wpAnyH_take (i := 7) (oi := _) (v := ?_) rfl (by kernel_rfl) (by kernel_rfl) (by kernel_rfl) (fun _ _ _ h => h) (Or.inl ⟨by kernel_rfl, ?_⟩) hHeld ?_
 rotate_left
 ·intro wq hSw
  go_simp
  (try with_reducible rfl)
 (try simp only [Act.put, List.getElem_toArray, List.getElem_cons_zero, List.getElem_cons_succ, List.setIfInBounds_toArray, List.set_cons_zero, List.set_cons_succ])
 refine wpAnyH_take (i := 8) (oi := _) (v := ?_) rfl (by kernel_rfl) (by kernel_rfl) (by kernel_rfl) (fun _ _ _ h => h) (Or.inl ⟨by kernel_rfl, ?_⟩) hHeld ?_
 rotate_left
 ·intro wq hSw
  have hSw2 := hSw.2.1
  clear hSw
  go_simp
  (try with_reducible rfl)
 (try simp only [Act.put, List.getElem_toArray, List.getElem_cons_zero, List.getElem_cons_succ, List.setIfInBounds_toArray, List.set_cons_zero, List.set_cons_succ])
 refine wpAnyH_ready (rs := [2]) (by kernel_rfl) (by simp) ?_
 refine AllReadyH.cons (o := _) rfl (fun K hK => ?_) AllReadyH.nil
 go_simp
 go_at_call 15
 refine (idof_any ok l A cap 3 w16d (HROW.out.bel HS16d.out.b) hl).mono ?_
 rintro r w17 ⟨rfl, hb⟩
 have HS17 := hid (HS16d.out.bel hb)
 have HVB17 := hid (HVB16d.out.below hb HVB16d.out.lt)
 have HY17 := hid (HY16d.out.bel hb)
 have HZ17 := hid (HZ16d.out.bel hb)
 clear hb
 refine hK.out _ _ (⟨range_of_blk HVB17.out, HCK.out _ _ _ _ _ HS17.out⟩) (fun hHeld2 => ?_)
 clear hK K hHeld
 have hHeld := hHeld2
 clear hHeld2
 (try simp only [Act.put, List.getElem_toArray, List.getElem_cons_zero, List.getElem_cons_succ, List.setIfInBounds_toArray, List.set_cons_zero, List.set_cons_succ])
 refine wpAnyH_ready (rs := [9]) (by kernel_rfl) (by simp) ?_
 refine AllReadyH.cons (o := _) rfl (fun K hK => ?_) AllReadyH.nil
 go_simp
 go_at_call 23
 refine (change_any (fun _ => True) (Co.levelsOf l) (Co.lvOf e) Y Z e.sender w17 (HY17.out.keep fun _ _ _ => ⟨trivial, rfl⟩) (HZ17.out.keep fun _ _ _ => ⟨trivial, rfl⟩) (lv_small HLS.out) HES.out).mono ?_
 rintro r w18 ⟨rfl, hb⟩
 have HS18 := hid (HS17.out.bel hb)
 have HVB18 := hid (HVB17.out.below hb HVB17.out.lt)
 have HY18 := hid (HY17.out.bel hb)
 have HZ18 := hid (HZ17.out.bel hb)
 clear hb
 refine hK.out _ _ (⟨range_of_blk HVB18.out, HCK.out _ _ _ _ _ HS18.out⟩) (fun hHeld2 => ?_)
 clear hK K hHeld
 have hHeld := hHeld2
 clear hHeld2
 (try simp only [Act.put, List.getElem_toArray, List.getElem_cons_zero, List.getElem_cons_succ, List.setIfInBounds_toArray, List.set_cons_zero, List.set_cons_succ])
 refine wpAnyH_take (i := 10) (oi := _) (v := ?_) rfl (by kernel_rfl) (by kernel_rfl) (by kernel_rfl) (fun _ _ _ h => h) (Or.inl ⟨by kernel_rfl, ?_⟩) hHeld ?_
 rotate_left
 ·intro wq hSw
  go_simp
  (try with_reducible rfl)
 (try simp only [Act.put, List.getElem_toArray, List.getElem_cons_zero, List.getElem_cons_succ, List.setIfInBounds_toArray, List.set_cons_zero, List.set_cons_succ])
 refine wpAnyH_take (i := 11) (oi := _) (v := ?_) rfl (by kernel_rfl) (by kernel_rfl) (by kernel_rfl) (fun _ _ _ h => h) (Or.inl ⟨by kernel_rfl, ?_⟩) hHeld ?_
 rotate_left
 ·intro wq hSw
  go_simp
  (try with_reducible rfl)
 (try simp only [Act.put, List.getElem_toArray, List.getElem_cons_zero, List.getElem_cons_succ, List.setIfInBounds_toArray, List.set_cons_zero, List.set_cons_succ])
 have HAS := hid (ask_any g q15 ⟨#[97, 108, 108, 111, 119, 101, 100]⟩ e.id AE ks4 d4 [112, 111, 119, 101, 114, 45, 99, 104, 97, 110, 103, 101] (Co.idK l 3) (Co.changeE (Co.levelsOf l) (Co.lvOf e) e.sender) w18 HS18.out.t (by have := HN4.out; omega))
 refine wpAnyH_ready (rs := [12]) (by kernel_rfl) (by simp) ?_
 refine AllReadyH.cons (o := _) rfl (fun K hK => ?_) AllReadyH.nil
 go_simp
 go_at_call 22
 refine HAS.out.mono ?_
 rintro r w15 hask
 obtain ⟨q18, hs15, hpk⟩ := HS18.out.ask2 hask
 obtain ⟨rfl, -⟩ := hask
 obtain ⟨ks3, hks3⟩ : ∃ k, k = askL ks4 d4 (.mk [112, 111, 119, 101, 114, 45, 99, 104, 97, 110, 103, 101] (Co.idK l 3) (Co.changeE (Co.levelsOf l) (Co.lvOf e) e.sender) []) := ⟨_, rfl⟩
 rw [← hks3] at hs15
 have HS15 := hid hs15
 have HK5 := hid hks3
 have HVB15 := hid ((hpk.block vb HVB18.out.lt (by omega) HVQ.out).trans HVB18.out)
 clear hks3 hs15 hpk
 refine hK.out _ _ (⟨range_of_blk HVB15.out, HCK.out _ _ _ _ _ HS15.out⟩) (fun hHeld2 => ?_)
 clear hK K hHeld
 have hHeld := hHeld2
 clear hHeld2
 (try simp only [Act.put, List.getElem_toArray, List.getElem_cons_zero, List.getElem_cons_succ, List.setIfInBounds_toArray, List.set_cons_zero, List.set_cons_succ])
 refine wpAnyH_done (by kernel_rfl) ?_ _
 refine NoPanic.normal ?_
 obtain ⟨kv, htb, hto, htq⟩ := HS15.out.t
 obtain ⟨A5, c5, rfl, -⟩ := hto.len
 have hrt : w15.rangeAt g 0 [.string ⟨#[97, 108, 108, 111, 119, 101, 100]⟩, .int .i64 e.id, .int .i64 AE, .slice A5 ks3.length c5] := fun j v hj => by
  have hj4 : j < 4 := (List.getElem?_eq_some_iff.1 hj).1
  rw [Nat.zero_add, htb.cell]
  match j, hj4, hj with
  | 0, _, hj => exact hj
  | 1, _, hj => exact hj
  | 2, _, hj => exact hj
  | 3, _, hj => exact hj
 have HL4 : Hid ((Tryz.prog.info? 42).map (·.size) = some ([.string ⟨#[97, 108, 108, 111, 119, 101, 100]⟩, .int .i64 e.id, .int .i64 AE, .slice A5 ks3.length c5] : List Value).length) := hid size_rea
 have HRT := hid hrt
 obtain ⟨A6, c6, e6, -, hrow6⟩ := hto.row (ok' := fun b => g + 1 ≤ b) (fun b h => h) (fun k hk => by
  obtain ⟨xs, h1, -⟩ := hto
  exact (h1.lt k hk).1)
 injection e6 with e6 _ e7
 subst e6 e7
 have hltr := HS15.out.lt
 have hrow7 := hrow6.keep (w' := w15.setRow (w.heap.size + 1) #[.string ⟨#[97, 108, 108, 111, 119, 101, 100]⟩, .int .i64 e.id, .int .i64 AE, .slice A5 ks3.length c5]) (ok' := fun b => w.heap.size ≤ b) (fun b hb _ => ⟨by omega, setRow_other _ _ _ _ (by omega)⟩)
 have HRW7 := hid hrow7
 have HRB15 := hid HS15.out.r
 clear hrt htb hto htq hrow6 hrow7
 go_wp2_with (first
  | ((with_reducible refine wpList_load_mid rfl 42 _ rfl g 0 ?_ [.string ⟨#[97, 108, 108, 111, 119, 101, 100]⟩, .int .i64 e.id, .int .i64 AE, .slice A5 ks3.length c5] _ HRT.out Tryz.underlying42 ?_ HL4.out ?_); rfl; rfl)
  | ((with_reducible refine store_rowb rfl 42 _ _ rfl (w.heap.size + 1) #[.string ⟨#[97, 108, 108, 111, 119, 101, 100]⟩, .int .i64 e.id, .int .i64 AE, .slice A5 ks3.length c5] ?_ ?_ 42 zRn HRB15.out size_rn ?_ (by simp [Value.oneCell']) ?_); rfl; rfl; rfl))
 have hks3 : ks3 = Co.upTo ([Co.ask [99, 114, 101, 97, 116, 105, 111, 110] (Co.idK l 1) (Co.createOf l).isNone 17, Co.ask [115, 101, 110, 100, 101, 114, 45, 106, 111, 105, 110, 101, 100] (Co.idM l e.sender) (!(Co.memOf l e.sender == 3)) 18, Co.ask [108, 101, 118, 101, 108] (Co.idK l 3) (!(decide (Co.needs (Co.levelsOf l) e.kind ≤ Co.userLv (Co.levelsOf l) e.sender))) 20, .mk [112, 111, 119, 101, 114, 45, 99, 104, 97, 110, 103, 101] (Co.idK l 3) (Co.changeE (Co.levelsOf l) (Co.lvOf e) e.sender) []]) := by
  have h0 := ask_fold ([Co.ask [99, 114, 101, 97, 116, 105, 111, 110] (Co.idK l 1) (Co.createOf l).isNone 17, Co.ask [115, 101, 110, 100, 101, 114, 45, 106, 111, 105, 110, 101, 100] (Co.idM l e.sender) (!(Co.memOf l e.sender == 3)) 18, Co.ask [108, 101, 118, 101, 108] (Co.idK l 3) (!(decide (Co.needs (Co.levelsOf l) e.kind ≤ Co.userLv (Co.levelsOf l) e.sender))) 20, .mk [112, 111, 119, 101, 114, 45, 99, 104, 97, 110, 103, 101] (Co.idK l 3) (Co.changeE (Co.levelsOf l) (Co.lvOf e) e.sender) []]) [] false
  simp only [List.foldl_cons, List.foldl_nil, Bool.false_eq_true, if_false, List.nil_append] at h0
  have hmn : (Co.createOf l).isNone = !made := by rw [← HMD.out]; cases Co.createOf l <;> rfl
  rw [hmn, ← HK1.out.1, ← HK1.out.2, ← HK2.out.1, ← HK2.out.2, ← HK3.out, ← HK4.out, ← HK5.out] at h0
  rw [h0, hmn]
 exact bodyPost_ret (results_cell_row rfl _ _ (w.heap.size + 1) 42 _ (0, 0) _ rfl (setRow_heap _ _ _ _ _ _ HRB15.out) Tryz.underlying42 rfl size_rn) rfl ⟨⟨_, rfl, by rw [HRU.out, ← hks3]; exact RnV.make HRW7.out.rn⟩, below_setRow HS15.out.b (Nat.le_succ _) _⟩
theorem pexp_all (ok : Nat → Prop) (e : Co.Ev) (X : List Value) (l : List Co.Ev) (A : Option Addr) (cap : Nat) (w : World) (hX : EvV ok w X e) (h : EvRow ok w A l) (hl : l.length ≤ 1000000) (hls : ∀ x ∈ l, x.users.length ≤ 1000000 ∧ x.kinds.length ≤ 1000000) (hal : ∀ x ∈ l, x.allow.length ≤ 1000000) (hp : e.prev.length ≤ 1000000) (hes : e.users.length ≤ 1000000 ∧ e.kinds.length ≤ 1000000) (hsz : e.sender.length ≤ 1000000 ∧ e.room.length ≤ 1000000) (m : Int) (hm : w.cell? ⟨0, 0, none⟩ = some (.int .i64 m)) :
  Calls Tryz.prog 8 #[.agg X.toArray, .slice A l.length cap] w fun r w' => AllowA e l w.heap.size r w' ∧ Below w.heap.size w w' := by
 have hA := fun (W : World) (hb : Below w.heap.size w W) => pallowed_all ok e l A cap X W (hX.bel hb) (h.bel hb) hl hls hal hp hes hsz m ((Below.cell hb (p := ⟨0, 0, none⟩) (block_lt hm)).trans hm)
 by_cases hk1 : e.kind = 1
 ·exact pexp_k1 ok e X l A cap w hX h hl hls hsz m hm hk1 hA
 by_cases hk2 : e.kind = 2
 ·exact pexp_k2 e X l A cap w (EvS.keep hX fun b _ hlt => ⟨hlt, rfl⟩) (Shp.Row.keep (S := EvS) h fun b _ hlt => ⟨hlt, rfl⟩) hl hls hal hp hk2 hA
 by_cases hk3 : e.kind = 3
 ·exact pexp_k3 ok e X l A cap w hX h hl hls hes hk3 hA
 exact pexp_other ok e X l A cap w hX h hl hls hk1 hk2 hk3 hA
end Go.Proofs.YtacjhbbieeliaaaGreatDoor
/- The text Cp. -/
namespace Co
def getE (l : List Ev) (id : Int) : Option Ev := l.find? (fun e => e.id == id)
def authOf (l : List Ev) (id : Int) : List Int := match getE l id with
  | some e => e.auth
  | none => []
def idsOf (l : List Ev) : List Int := l.map (·.id)
abbrev Far := Int → Option Nat
def found (l : List Ev) (far : Far) (n : Nat) : List Int := (idsOf l).filter fun x => (far x).isNone && (authOf l x).any fun a => far a == some (n - 1)
def upd (far : Far) (fd : List Int) (n : Nat) : Far := fun x => if x ∈ fd then some n else far x
def distF (l : List Ev) : Nat → Nat → Far → Far
  | 0, _, far => far
  | f + 1, n, far => if found l far n = [] then far else distF l f (n + 1) (upd far (found l far n) n)
def far0 (b : Int) : Far := fun x => if x = b then some 0 else none
def dist (l : List Ev) (b : Int) : Far := distF l (l.length + 1) 1 (far0 b)
def least (p : Int → Bool) : List Int → Option Int
  | [] => none
  | x :: r => match least p r with
    | none => if p x then some x else none
    | some y => if p x && decide (x ≤ y) then some x else some y
def downF (l : List Ev) (far : Far) : Nat → Int → List Int
  | 0, _ => []
  | n + 1, at_ => (least (fun a => far a == some n) (authOf l at_)).getD 0 :: downF l far n ((least (fun a => far a == some n) (authOf l at_)).getD 0)
def pathP (l : List Ev) (a b : Int) : List Int :=
  if (getE l a).isSome && (getE l b).isSome then match dist l b a with
    | none => []
    | some n => a :: downF l (dist l b) n a
  else []
def Wk (l : List Ev) (b : Int) : Nat → Int → Prop
  | 0, x => x = b
  | n + 1, x => x ∈ idsOf l ∧ ∃ a, a ∈ authOf l x ∧ Wk l b n a
theorem get_known {l : List Ev} {x : Int} : (getE l x).isSome = true ↔ x ∈ idsOf l := by
  unfold getE idsOf
  rw [List.find?_isSome]
  constructor
  · rintro ⟨e, h1, h2⟩
    exact List.mem_map.2 ⟨e, h1, by simpa using h2⟩
  · intro h
    obtain ⟨e, h1, h2⟩ := List.mem_map.1 h
    exact ⟨e, h1, by simpa using h2⟩
def Min (l : List Ev) (b : Int) (n : Nat) (x : Int) : Prop := Wk l b n x ∧ ∀ j, j < n → ¬ Wk l b j x
structure Inv (l : List Ev) (b : Int) (n : Nat) (far : Far) : Prop where
  some_ : ∀ x m, far x = some m → m < n ∧ Min l b m x
  none_ : ∀ x, far x = none → ∀ j, j < n → ¬ Wk l b j x
theorem inv0 (l : List Ev) (b : Int) : Inv l b 1 (far0 b) := by
  refine ⟨fun x m h => ?_, fun x h j hj => ?_⟩
  · unfold far0 at h
    by_cases hx : x = b
    · rw [if_pos hx] at h
      injection h with h
      subst h
      exact ⟨by omega, hx, fun j hj => absurd hj (Nat.not_lt_zero _)⟩
    · rw [if_neg hx] at h; cases h
  · unfold far0 at h
    obtain rfl : j = 0 := by omega
    intro hw
    rw [if_pos (show x = b from hw)] at h
    cases h
theorem found_iff {l : List Ev} {b : Int} {n : Nat} {far : Far} (h : Inv l b (n + 1) far) (x : Int) : x ∈ found l far (n + 1) ↔ Min l b (n + 1) x := by
  unfold found
  rw [List.mem_filter, Bool.and_eq_true, Option.isNone_iff_eq_none, List.any_eq_true]
  constructor
  · rintro ⟨h1, h2, a, h3, h4⟩
    have h4 : far a = some n := by simpa using h4
    exact ⟨⟨h1, a, h3, (h.some_ a n h4).2.1⟩, fun j hj => h.none_ x h2 j hj⟩
  · rintro ⟨⟨h1, a, h3, h4⟩, h5⟩
    have h2 : far x = none := by
      cases hx : far x with
      | none => rfl
      | some m => exact absurd (h.some_ x m hx).2.1 (h5 m (h.some_ x m hx).1)
    refine ⟨h1, h2, a, h3, ?_⟩
    cases ha : far a with
    | none => exact absurd h4 (h.none_ a ha n (by omega))
    | some m =>
      obtain ⟨g1, g2⟩ := h.some_ a m ha
      by_cases hm : m = n
      · simp [hm]
      · exact absurd ⟨h1, a, h3, g2.1⟩ (h5 (m + 1) (by omega))
theorem inv_step {l : List Ev} {b : Int} {n : Nat} {far : Far} (h : Inv l b (n + 1) far) : Inv l b (n + 2) (upd far (found l far (n + 1)) (n + 1)) := by
  have hf := found_iff h
  refine ⟨fun x m hx => ?_, fun x hx j hj => ?_⟩
  · unfold upd at hx
    by_cases hm : x ∈ found l far (n + 1)
    · rw [if_pos hm] at hx
      injection hx with hx
      subst hx
      exact ⟨by omega, (hf x).1 hm⟩
    · rw [if_neg hm] at hx
      have := h.some_ x m hx
      exact ⟨by omega, this.2⟩
  · unfold upd at hx
    by_cases hm : x ∈ found l far (n + 1)
    · rw [if_pos hm] at hx; cases hx
    · rw [if_neg hm] at hx
      intro hw
      have hno := h.none_ x hx
      by_cases hj2 : j < n + 1
      · exact hno j hj2 hw
      · obtain rfl : j = n + 1 := by omega
        exact hm ((hf x).2 ⟨hw, fun i hi => hno i hi⟩)
theorem min_step {l : List Ev} {b x : Int} {n : Nat} (h : Min l b (n + 1) x) : x ∈ idsOf l ∧ ∃ a, a ∈ authOf l x ∧ Min l b n a := by
  obtain ⟨⟨h1, a, h2, h3⟩, h4⟩ := h
  exact ⟨h1, a, h2, h3, fun j hj hw => h4 (j + 1) (by omega) ⟨h1, a, h2, hw⟩⟩
theorem min_down {l : List Ev} {b : Int} : ∀ {n : Nat} {x : Int} (m : Nat), Min l b n x → m ≤ n → ∃ y, Min l b m y
  | 0, x, m, h, hm => ⟨x, by obtain rfl : m = 0 := by omega
                             exact h⟩
  | n + 1, x, m, h, hm => by
    by_cases he : m = n + 1
    · subst he; exact ⟨x, h⟩
    · obtain ⟨_, a, _, h2⟩ := min_step h
      exact min_down m h2 (by omega)
theorem min_of_walk {l : List Ev} {b : Int} : ∀ (n : Nat) (x : Int), Wk l b n x → ∃ m, m ≤ n ∧ Min l b m x := by
  intro n
  induction n using Nat.strongRecOn with
  | ind n ih =>
    intro x h
    by_cases hc : ∃ j, j < n ∧ Wk l b j x
    · obtain ⟨j, hj, hw⟩ := hc
      obtain ⟨m, h1, h2⟩ := ih j hj x hw
      exact ⟨m, by omega, h2⟩
    · exact ⟨n, Nat.le_refl _, h, fun j hj hw => hc ⟨j, hj, hw⟩⟩
theorem min_one {l : List Ev} {b x : Int} {m n : Nat} (h : Min l b m x) (h2 : Min l b n x) : m = n := by
  rcases Nat.lt_trichotomy m n with h3 | h3 | h3
  · exact absurd h.1 (h2.2 m h3)
  · exact h3
  · exact absurd h2.1 (h.2 n h3)
def Full (l : List Ev) (b : Int) (far : Far) : Prop := ∀ x m, far x = some m ↔ Min l b m x
theorem full_of {l : List Ev} {b : Int} {n : Nat} {far : Far} (h : Inv l b (n + 1) far) (he : found l far (n + 1) = []) : Full l b far := by
  intro x m
  refine ⟨fun hx => (h.some_ x m hx).2, fun hx => ?_⟩
  have hm : m < n + 1 := by
    rcases Nat.lt_or_ge m (n + 1) with h1 | h1
    · exact h1
    · obtain ⟨y, hy⟩ := min_down (n + 1) hx h1
      have := (found_iff h y).2 hy
      rw [he] at this
      cases this
  cases hf : far x with
  | none => exact absurd hx.1 (h.none_ x hf m hm)
  | some k => rw [min_one (h.some_ x k hf).2 hx]
def unk (l : List Ev) (far : Far) : Nat := ((idsOf l).filter fun x => (far x).isNone).length
theorem unk_le (l : List Ev) (far : Far) : unk l far ≤ l.length := by
  unfold unk idsOf
  have := List.length_filter_le (fun x => (far x).isNone) (l.map (·.id))
  rwa [List.length_map] at this
theorem filter_lt {α : Type} (p q : α → Bool) : ∀ (l : List α), (∀ x, q x = true → p x = true) → (∃ x, x ∈ l ∧ p x = true ∧ q x = false) → (l.filter q).length < (l.filter p).length
  | [], _, ⟨x, h, _⟩ => by cases h
  | y :: l, hq, ⟨x, h, h1, h2⟩ => by
    have hle : ∀ l : List α, (l.filter q).length ≤ (l.filter p).length := by
      intro l
      induction l with
      | nil => exact Nat.le_refl _
      | cons z r ih =>
        rw [List.filter_cons, List.filter_cons]
        cases hz : q z with
        | true => rw [hq z hz, if_pos rfl, if_pos rfl]; simp; exact ih
        | false =>
          rw [if_neg Bool.false_ne_true]
          split
          · simp; omega
          · exact ih
    rw [List.filter_cons, List.filter_cons]
    rcases List.mem_cons.1 h with rfl | h
    · rw [h1, h2, if_pos rfl, if_neg Bool.false_ne_true, List.length_cons]
      have := hle l
      omega
    · have ih := filter_lt p q l hq ⟨x, h, h1, h2⟩
      cases hz : q y with
      | true => rw [hq y hz, if_pos rfl, if_pos rfl]; simp; exact ih
      | false =>
        rw [if_neg Bool.false_ne_true]
        split
        · simp; omega
        · exact ih
theorem unk_step {l : List Ev} {far : Far} {n : Nat} (he : found l far n ≠ []) : unk l (upd far (found l far n) n) < unk l far := by
  unfold unk
  refine filter_lt _ _ _ (fun x hx => ?_) ?_
  · unfold upd at hx
    by_cases hm : x ∈ found l far n
    · rw [if_pos hm] at hx; cases hx
    · rw [if_neg hm] at hx; exact hx
  · cases hf : found l far n with
    | nil => exact absurd hf he
    | cons x r =>
      have hx : x ∈ found l far n := by rw [hf]; exact List.mem_cons_self ..
      have hx2 := hx
      unfold found at hx2
      rw [List.mem_filter, Bool.and_eq_true] at hx2
      refine ⟨x, hx2.1, hx2.2.1, ?_⟩
      rw [← hf]
      unfold upd
      rw [if_pos hx]
      rfl
theorem dist_full {l : List Ev} {b : Int} : ∀ (f n : Nat) (far : Far), Inv l b (n + 1) far → unk l far < f → Full l b (distF l f (n + 1) far)
  | 0, _, _, _, h => absurd h (Nat.not_lt_zero _)
  | f + 1, n, far, h, hf => by
    unfold distF
    by_cases he : found l far (n + 1) = []
    · rw [if_pos he]; exact full_of h he
    · rw [if_neg he]
      exact dist_full f (n + 1) _ (inv_step h) (by have := unk_step he; omega)
theorem dist_is (l : List Ev) (b : Int) : Full l b (dist l b) := dist_full _ 0 _ (inv0 l b) (by have := unk_le l (far0 b); omega)
theorem distF_more (l : List Ev) : ∀ (f g n : Nat) (far : Far), unk l far < f → unk l far < g → distF l f n far = distF l g n far
  | 0, _, _, _, h, _ => absurd h (Nat.not_lt_zero _)
  | _, 0, _, _, _, h => absurd h (Nat.not_lt_zero _)
  | f + 1, g + 1, n, far, h1, h2 => by
    unfold distF
    by_cases he : found l far n = []
    · rw [if_pos he, if_pos he]
    · rw [if_neg he, if_neg he]
      have := unk_step he
      exact distF_more l f g (n + 1) _ (by omega) (by omega)
theorem least_none {p : Int → Bool} : ∀ {l : List Int}, least p l = none → ∀ x ∈ l, p x = false
  | [], _, x, h => by cases h
  | y :: r, h, x, hx => by
    unfold least at h
    cases hr : least p r with
    | none =>
      rw [hr] at h
      simp only at h
      rcases List.mem_cons.1 hx with rfl | hx
      · cases hp : p x with
        | false => rfl
        | true => rw [hp] at h; cases h
      · exact least_none hr x hx
    | some z =>
      rw [hr] at h
      simp only at h
      split at h <;> cases h
theorem least_some {p : Int → Bool} : ∀ {l : List Int} {y : Int}, least p l = some y → y ∈ l ∧ p y = true ∧ ∀ x ∈ l, p x = true → y ≤ x
  | [], y, h => by cases h
  | z :: r, y, h => by
    unfold least at h
    cases hr : least p r with
    | none =>
      rw [hr] at h
      simp only at h
      cases hp : p z with
      | false => rw [hp] at h; cases h
      | true =>
        rw [hp, if_pos rfl] at h
        injection h with h
        subst h
        refine ⟨List.mem_cons_self .., hp, fun x hx hpx => ?_⟩
        rcases List.mem_cons.1 hx with rfl | hx
        · exact Int.le_refl _
        · rw [least_none hr x hx] at hpx; cases hpx
    | some t =>
      rw [hr] at h
      simp only at h
      obtain ⟨h1, h2, h3⟩ := least_some hr
      by_cases hc : (p z && decide (z ≤ t)) = true
      · rw [if_pos hc] at h
        injection h with h
        subst h
        rw [Bool.and_eq_true, decide_eq_true_eq] at hc
        refine ⟨List.mem_cons_self .., hc.1, fun x hx hpx => ?_⟩
        rcases List.mem_cons.1 hx with rfl | hx
        · exact Int.le_refl _
        · have := h3 x hx hpx; omega
      · rw [if_neg hc] at h
        injection h with h
        subst h
        refine ⟨List.mem_cons_of_mem _ h1, h2, fun x hx hpx => ?_⟩
        rcases List.mem_cons.1 hx with rfl | hx
        · rw [Bool.and_eq_true, decide_eq_true_eq] at hc
          have : ¬ x ≤ t := fun h => hc ⟨hpx, h⟩
          omega
        · exact h3 x hx hpx
theorem least_congr {p q : Int → Bool} {l : List Int} (h : ∀ x ∈ l, p x = q x) : least p l = least q l := by
  induction l with
  | nil => rfl
  | cons x r ih =>
    unfold least
    rw [ih (fun y hy => h y (List.mem_cons_of_mem _ hy)), h x (List.mem_cons_self ..)]
end Co
