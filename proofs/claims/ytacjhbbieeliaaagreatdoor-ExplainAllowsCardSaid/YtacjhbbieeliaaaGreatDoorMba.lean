/- The text Nj. -/
import Derived.Test.YtacjhbbieeliaaaGreatDoorMaz
set_option linter.unusedSimpArgs false
set_option maxHeartbeats 16000000
set_option maxRecDepth 100000
set_option linter.unusedVariables false
namespace Go.Proofs.YtacjhbbieeliaaaGreatDoor
open Go.RowKit Go.Lib
set_option linter.unusedVariables false
set_option linter.unusedSimpArgs false
def asksP (ts : List Rn.Tr) (ks : List Rn.Tr) (done : Bool) : List Rn.Tr × Bool := ts.foldl (fun (p : List Rn.Tr × Bool) t => (askL p.1 p.2 t, askD p.2 t)) (ks, done)
def AsksA (g : Nat) (q : Option Nat) (rule : ByteArray) (id err : Int) (ks : List Rn.Tr) (done : Bool) (ts : List Rn.Tr) (w : World) (x : Ending) (w' : World) : Prop :=
 x = .returned (.tuple #[]) ∧ ∃ q', TrS w' g q' rule id err (asksP ts ks done).1 (asksP ts ks done).2 ∧ PrK w g q w' q'
def Kept (W : World) (g : Nat) (q : Option Nat) (b : Nat) (t : TypeId) (Y : Array Value) : Prop := Blk W b t Y ∧ b ≠ g ∧ some b ≠ q
theorem Kept.bel {W W' : World} {g b : Nat} {q : Option Nat} {t : TypeId} {Y : Array Value} (h : Kept W g q b t Y) (hb : Below W.heap.size W W') : Kept W' g q b t Y := ⟨h.1.below hb h.1.lt, h.2⟩
theorem Kept.ask {W W' : World} {g b : Nat} {q q' : Option Nat} {t : TypeId} {Y : Array Value} (h : Kept W g q b t Y) (hp : PrK W g q W' q') : Kept W' g q' b t Y := ⟨(hp.block b h.1.lt h.2.1 h.2.2).trans h.1, h.2.1, hp.apart h.1.lt h.2.2⟩
def rankR (e : Co.Ev) (l : List Co.Ev) (now : Int) : List Rn.Tr :=
 if e.n = 1 then [Co.ask [105, 110, 118, 105, 116, 101, 45, 108, 101, 118, 101, 108] (Co.idK l 3) (!(decide ((Co.levelsOf l).li ≤ Co.userLv (Co.levelsOf l) e.sender))) 20]
 else if e.n = 0 then
  (if now = 4 then [Co.ask [117, 110, 98, 97, 110, 45, 108, 101, 118, 101, 108] (Co.idK l 3) (!(decide ((Co.levelsOf l).lb ≤ Co.userLv (Co.levelsOf l) e.sender))) 20] else []) ++
  [Co.ask [107, 105, 99, 107, 45, 108, 101, 118, 101, 108] (Co.idK l 3) (!(decide ((Co.levelsOf l).lk ≤ Co.userLv (Co.levelsOf l) e.sender))) 20, Co.ask [107, 105, 99, 107, 45, 116, 97, 114, 103, 101, 116] (Co.idK l 3) (!(decide (Co.userLv (Co.levelsOf l) e.key < Co.userLv (Co.levelsOf l) e.sender))) 20]
 else if e.n = 4 then [Co.ask [98, 97, 110, 45, 108, 101, 118, 101, 108] (Co.idK l 3) (!(decide ((Co.levelsOf l).lb ≤ Co.userLv (Co.levelsOf l) e.sender))) 20, Co.ask [98, 97, 110, 45, 116, 97, 114, 103, 101, 116] (Co.idK l 3) (!(decide (Co.userLv (Co.levelsOf l) e.key < Co.userLv (Co.levelsOf l) e.sender))) 20]
 else []
theorem askL_len (ks : List Rn.Tr) (d : Bool) (t : Rn.Tr) : (askL ks d t).length ≤ ks.length + 1 := by
 unfold askL
 split
 ·omega
 ·simp
theorem rank_any (ok : Nat → Prop) (g : Nat) (q : Option Nat) (rule : ByteArray) (id err : Int) (ks : List Rn.Tr) (done : Bool) (e : Co.Ev) (X : List Value) (l : List Co.Ev) (A : Option Addr) (cap : Nat) (now : Int) (w : World) (ht : TrS w g q rule id err ks done) (hn : ks.length ≤ 900) (hX : EvV ok w X e) (h : EvRow ok w A l) (hl : l.length ≤ 1000000) (hs : ∀ x ∈ l, x.users.length ≤ 1000000 ∧ x.kinds.length ≤ 1000000) :
  Calls Tryz.prog 46 #[.pointer (some ⟨g, 0, none⟩), .agg X.toArray, .slice A l.length cap, .int .i64 now] w (AsksA g q rule id err ks done (rankR e l now) w) := by
 have hb1 := (Below.refl w.heap.size w).alloc (Nat.le_refl _) (.cells X.toArray 34)
 have HB1 := hid hb1
 have HOWN := hid ht.own
 have hgl := ht.lt
 have HE1 : Hid (Kept (w.alloc (.cells X.toArray 34)) g q w.heap.size 34 X.toArray) := hid ⟨Blk.new w 34 X.toArray, by omega, fun e => by have := HOWN.out _ e.symm; omega⟩
 have HT1 := hid (ht.bel hb1)
 have HX1 := hid (hX.bel hb1)
 have HLO := hid (lvof_any ok l A cap _ (h.bel hb1) hl hs)
 have HROW := hid (h.bel hb1)
 have HLS := hid (lv_small hs)
 have HNL := hid hn
 have HWS : Hid (w.heap.size < (w.alloc (.cells X.toArray 34)).heap.size) := hid (by simp)
 obtain ⟨R, hR⟩ : ∃ R, R = rankR e l now := ⟨_, rfl⟩
 have HR := hid hR
 rw [← hR]
 clear hX h hs hR hb1 ht hn
 generalize hw1 : w.alloc (.cells X.toArray 34) = w1 at *
 go_enter Tryz.func46, Tryz.ntmps46
 go_wp2_with fail
 refine HLO.out.mono ?_
 rintro r w3 ⟨⟨Y, rfl, hY⟩, hb3⟩
 have HSY := hid (size_lvX hY)
 have HSZ : Hid (zLv.size = Y.toArray.size) := hid (by show 9 = Y.toArray.size; rw [List.size_toArray, hY.len])
 have HOV : Hid (Y.toArray.all (·.oneCell') = true) := hid (all_oneCell_toArray hY.one)
 have HNEW := hid (Blk.new w3 28 zLv)
 have hb4 := below_setRow (g := w3.heap.size) ((Below.refl w3.heap.size w3).alloc (Nat.le_refl _) (.cells zLv 28)) (Nat.le_refl _) Y.toArray
 have HB14 := hid (hb3.trans (hb4.mono hb3.size))
 have HB4 := hid (HB1.out.trans (HB14.out.mono HB1.out.size))
 have HV4 : Hid (Kept ((w3.alloc (.cells zLv 28)).setRow w3.heap.size Y.toArray) g q w3.heap.size 28 Y.toArray) := hid ⟨setRow_heap _ _ _ _ _ _ HNEW.out, by have := hb3.size; have := HWS.out; omega, fun e => by have := HOWN.out _ e.symm; have := hb3.size; have := HWS.out; omega⟩
 have HE4 := hid (HE1.out.bel HB14.out)
 have HT4 := hid (HT1.out.bel HB14.out)
 have HX4 := hid (HX1.out.bel HB14.out)
 have HY4 := hid (hY.bel hb4)
 have HROW4 := hid (HROW.out.bel HB14.out)
 obtain ⟨cu, ck, hYX, -, -⟩ := hY
 have HVC5 : Hid (Y.toArray[5]? = some (.int .i64 (Co.levelsOf l).li)) := hid (by rw [List.getElem?_toArray, hYX]; rfl)
 have HVC6 : Hid (Y.toArray[6]? = some (.int .i64 (Co.levelsOf l).lk)) := hid (by rw [List.getElem?_toArray, hYX]; rfl)
 have HVC7 : Hid (Y.toArray[7]? = some (.int .i64 (Co.levelsOf l).lb)) := hid (by rw [List.getElem?_toArray, hYX]; rfl)
 clear hYX hb3 hb4
 generalize hw4 : (w3.alloc (.cells zLv 28)).setRow w3.heap.size Y.toArray = w4 at *
 go_upto_region 2 with ((with_reducible refine store_rowe rfl 28 _ _ rfl w3.heap.size Y.toArray ?_ ?_ 28 zLv HNEW.out HSY.out HSZ.out HOV.out ?_); rfl; rfl; rw [hw4])
 go_wp2_with fail
 refine (idof_any ok l A cap 3 w4 HROW4.out hl).mono ?_
 rintro r w5 ⟨rfl, hb5⟩
 have HB5 := hid (HB4.out.trans (hb5.mono HB4.out.size))
 have HV5 := hid (HV4.out.bel hb5)
 have HE5 := hid (HE4.out.bel hb5)
 have HT5 := hid (HT4.out.bel hb5)
 have HX5 := hid (HX4.out.bel hb5)
 have HY5 := hid (HY4.out.bel hb5)
 have HEC2 : Hid (w5.cell? ⟨w.heap.size, 2, none⟩ = some (.string (bstr e.sender))) := hid ((HE5.out.1.cell 2).trans (by rw [List.getElem?_toArray]; exact HX5.out.c2))
 have HEC5 : Hid (w5.cell? ⟨w.heap.size, 5, none⟩ = some (.string (bstr e.key))) := hid ((HE5.out.1.cell 5).trans (by rw [List.getElem?_toArray]; exact HX5.out.c5))
 clear hb5
 go_upto_region 3 with fail
 refine wp_region_noPanic ?_
 refine wp_region_held_drew (S := fun W => Below w5.heap.size w5 W) (by kernel_rfl) ((Below.refl _ _).drew) (fun hHeld => ?_)
 generalize hwd : w5.drew = wd at *
 have HBd := hid hHeld
 refine wpAnyH_take (i := 0) (oi := _) (v := _) rfl (by kernel_rfl) (by kernel_rfl) (by kernel_rfl) (fun _ _ _ h => h) (row_yields_u (X := Y.toArray) rfl Tryz.underlying28 HSY.out (fun W h => HV5.out.1.below h HV5.out.1.lt) (by kernel_rfl) _ rfl rfl) hHeld ?_
 (try simp only [Act.put, pk1, pk2, pk3, pk4, pk5, pk6])
 refine wpAnyH_take (i := 1) (oi := _) (v := ?_) rfl (by kernel_rfl) (by kernel_rfl) (by kernel_rfl) (fun _ _ _ h => h) (Or.inl ⟨by kernel_rfl, ?_⟩) hHeld ?_
 rotate_left
 ·intro wq hSw
  go_simp
  (try with_reducible rfl)
 (try simp only [Act.put, pk1, pk2, pk3, pk4, pk5, pk6])
 refine wpAnyH_take (i := 2) (oi := _) (v := ?_) rfl (by kernel_rfl) (by kernel_rfl) (by kernel_rfl) (fun _ _ _ h => h) (Or.inl ⟨by kernel_rfl, ?_⟩) hHeld ?_
 rotate_left
 ·intro wq hSw
  have hx2 : wq.cell? ⟨w.heap.size, 2, none⟩ = some (.string (bstr e.sender)) := (Below.cell hSw (p := ⟨w.heap.size, 2, none⟩) HE5.out.1.lt).trans (HEC2.out)
  go_simp
  (try with_reducible rfl)
 (try simp only [Act.put, pk1, pk2, pk3, pk4, pk5, pk6])
 refine wpAnyH_take (i := 4) (oi := _) (v := _) rfl (by kernel_rfl) (by kernel_rfl) (by kernel_rfl) (fun _ _ _ h => h) (row_yields_u (X := Y.toArray) rfl Tryz.underlying28 HSY.out (fun W h => HV5.out.1.below h HV5.out.1.lt) (by kernel_rfl) _ rfl rfl) hHeld ?_
 (try simp only [Act.put, pk1, pk2, pk3, pk4, pk5, pk6])
 refine wpAnyH_take (i := 5) (oi := _) (v := ?_) rfl (by kernel_rfl) (by kernel_rfl) (by kernel_rfl) (fun _ _ _ h => h) (Or.inl ⟨by kernel_rfl, ?_⟩) hHeld ?_
 rotate_left
 ·intro wq hSw
  go_simp
  (try with_reducible rfl)
 (try simp only [Act.put, pk1, pk2, pk3, pk4, pk5, pk6])
 refine wpAnyH_take (i := 6) (oi := _) (v := ?_) rfl (by kernel_rfl) (by kernel_rfl) (by kernel_rfl) (fun _ _ _ h => h) (Or.inl ⟨by kernel_rfl, ?_⟩) hHeld ?_
 rotate_left
 ·intro wq hSw
  have hx5 : wq.cell? ⟨w.heap.size, 5, none⟩ = some (.string (bstr e.key)) := (Below.cell hSw (p := ⟨w.heap.size, 5, none⟩) HE5.out.1.lt).trans (HEC5.out)
  go_simp
  (try with_reducible rfl)
 (try simp only [Act.put, pk1, pk2, pk3, pk4, pk5, pk6])
 refine wpAnyH_ready (rs := [3]) (by kernel_rfl) (by simp) ?_
 refine AllReadyH.cons (o := _) rfl (fun K hK => ?_) AllReadyH.nil
 go_simp
 go_at_call 20
 refine (lvuser_any _ (Co.levelsOf l) Y e.sender wd (HY5.out.bel HBd.out) HLS.out.1).mono ?_
 rintro r ra ⟨rfl, hba⟩
 have HBa := hid (HBd.out.trans (hba.mono HBd.out.size))
 clear hba
 refine hK.out _ _ (HBa.out) (fun hHeld2 => ?_)
 clear hK K hHeld
 have hHeld := hHeld2
 clear hHeld2
 (try simp only [Act.put, pk1, pk2, pk3, pk4, pk5, pk6])
 refine wpAnyH_ready (rs := [7]) (by kernel_rfl) (by simp) ?_
 refine AllReadyH.cons (o := _) rfl (fun K hK => ?_) AllReadyH.nil
 go_simp
 go_at_call 20
 refine (lvuser_any _ (Co.levelsOf l) Y e.key ra (HY5.out.bel HBa.out) HLS.out.1).mono ?_
 rintro r rb ⟨rfl, hbb⟩
 have HBb := hid (HBa.out.trans (hbb.mono HBa.out.size))
 clear hbb
 refine hK.out _ _ (HBb.out) (fun hHeld2 => ?_)
 clear hK K hHeld
 have hHeld := hHeld2
 clear hHeld2
 (try simp only [Act.put, pk1, pk2, pk3, pk4, pk5, pk6])
 refine wpAnyH_take (i := 8) (oi := _) (v := ?_) rfl (by kernel_rfl) (by kernel_rfl) (by kernel_rfl) (fun _ _ _ h => h) (Or.inl ⟨by kernel_rfl, ?_⟩) hHeld ?_
 rotate_left
 ·intro wq hSw
  go_simp
  (try with_reducible rfl)
 (try simp only [Act.put, pk1, pk2, pk3, pk4, pk5, pk6])
 refine wpAnyH_take (i := 9) (oi := _) (v := ?_) rfl (by kernel_rfl) (by kernel_rfl) (by kernel_rfl) (fun _ _ _ h => h) (Or.inl ⟨by kernel_rfl, ?_⟩) hHeld ?_
 rotate_left
 ·intro wq hSw
  go_simp
  (try with_reducible rfl)
 (try simp only [Act.put, pk1, pk2, pk3, pk4, pk5, pk6])
 refine wpAnyH_done (by kernel_rfl) ?_ _
 refine NoPanic.normal ?_
 have HBW := hid (HB5.out.trans (HBb.out.mono HB5.out.size))
 have TT0 := hid (HT5.out.bel HBb.out)
 have PP0 : Hid (PrK w g q rb q) := hid (PrK.of_bel HBW.out)
 have VV0 := hid (HV5.out.bel HBb.out)
 have hen : rb.cell? ⟨w.heap.size, 11, none⟩ = some (.int .i64 e.n) := ((HE5.out.bel HBb.out).1.cell 11).trans (by rw [List.getElem?_toArray]; exact (HX5.out.bel HBb.out).c11)
 have hv5 := (VV0.out.1.cell 5).trans HVC5.out
 have hv6 := (VV0.out.1.cell 6).trans HVC6.out
 have hv7 := (VV0.out.1.cell 7).trans HVC7.out
 have HR : Hid (R = rankR e l now) := HR
 unfold rankR at HR
 generalize Co.idK l 3 = at_ at *
 generalize Co.userLv (Co.levelsOf l) e.sender = ul at *
 generalize Co.userLv (Co.levelsOf l) e.key = uk at *
 generalize (Co.levelsOf l).li = li at *
 generalize (Co.levelsOf l).lk = lk at *
 generalize (Co.levelsOf l).lb = lb at *
 generalize e.n = nn at *
 by_cases h1 : nn = 1
 ·subst h1
  have HRK : Hid (R = [Co.ask [105, 110, 118, 105, 116, 101, 45, 108, 101, 118, 101, 108] at_ (!(decide (li ≤ ul))) 20]) := hid HR.out
  go_wp2_with fail
  refine (must_any g q rule id err (ks) (done) [105, 110, 118, 105, 116, 101, 45, 108, 101, 118, 101, 108] at_ (decide (li ≤ ul)) 20 rb TT0.out (by have h0 := HNL.out; omega)).mono ?_
  rintro r m1 ⟨rfl, q1, ht, hp⟩
  have TT1 := hid ht
  have PP1 := hid (PP0.out.tr hp)
  have VV1 := hid (VV0.out.ask hp)
  clear ht hp
  have hv5 := (VV1.out.1.cell 5).trans HVC5.out
  have hv6 := (VV1.out.1.cell 6).trans HVC6.out
  have hv7 := (VV1.out.1.cell 7).trans HVC7.out
  go_wp2_with fail
  go_end0
  exact ⟨rfl, q1, by rw [HRK.out]; exact TT1.out, PP1.out⟩
 by_cases h0 : nn = 0
 ·subst h0
  by_cases h4 : now = 4
  ·subst h4
   have HRK : Hid (R = [Co.ask [117, 110, 98, 97, 110, 45, 108, 101, 118, 101, 108] at_ (!(decide (lb ≤ ul))) 20, Co.ask [107, 105, 99, 107, 45, 108, 101, 118, 101, 108] at_ (!(decide (lk ≤ ul))) 20, Co.ask [107, 105, 99, 107, 45, 116, 97, 114, 103, 101, 116] at_ (!(decide (uk < ul))) 20]) := hid HR.out
   go_wp2_with fail
   refine (must_any g q rule id err (ks) (done) [117, 110, 98, 97, 110, 45, 108, 101, 118, 101, 108] at_ (decide (lb ≤ ul)) 20 rb TT0.out (by have h0 := HNL.out; omega)).mono ?_
   rintro r m2 ⟨rfl, q2, ht, hp⟩
   have TT2 := hid ht
   have PP2 := hid (PP0.out.tr hp)
   have VV2 := hid (VV0.out.ask hp)
   clear ht hp
   have hv5 := (VV2.out.1.cell 5).trans HVC5.out
   have hv6 := (VV2.out.1.cell 6).trans HVC6.out
   have hv7 := (VV2.out.1.cell 7).trans HVC7.out
   go_wp2_with fail
   refine (must_any g q2 rule id err (askL (ks) (done) (Co.ask [117, 110, 98, 97, 110, 45, 108, 101, 118, 101, 108] at_ (!(decide (lb ≤ ul))) 20)) (askD (done) (Co.ask [117, 110, 98, 97, 110, 45, 108, 101, 118, 101, 108] at_ (!(decide (lb ≤ ul))) 20)) [107, 105, 99, 107, 45, 108, 101, 118, 101, 108] at_ (decide (lk ≤ ul)) 20 m2 TT2.out (by have h0 := HNL.out; have e0 := askL_len (ks) (done) (Co.ask [117, 110, 98, 97, 110, 45, 108, 101, 118, 101, 108] at_ (!(decide (lb ≤ ul))) 20); omega)).mono ?_
   rintro r m3 ⟨rfl, q3, ht, hp⟩
   have TT3 := hid ht
   have PP3 := hid (PP2.out.tr hp)
   have VV3 := hid (VV2.out.ask hp)
   clear ht hp
   have hv5 := (VV3.out.1.cell 5).trans HVC5.out
   have hv6 := (VV3.out.1.cell 6).trans HVC6.out
   have hv7 := (VV3.out.1.cell 7).trans HVC7.out
   go_wp2_with fail
   refine (must_any g q3 rule id err (askL (askL (ks) (done) (Co.ask [117, 110, 98, 97, 110, 45, 108, 101, 118, 101, 108] at_ (!(decide (lb ≤ ul))) 20)) (askD (done) (Co.ask [117, 110, 98, 97, 110, 45, 108, 101, 118, 101, 108] at_ (!(decide (lb ≤ ul))) 20)) (Co.ask [107, 105, 99, 107, 45, 108, 101, 118, 101, 108] at_ (!(decide (lk ≤ ul))) 20)) (askD (askD (done) (Co.ask [117, 110, 98, 97, 110, 45, 108, 101, 118, 101, 108] at_ (!(decide (lb ≤ ul))) 20)) (Co.ask [107, 105, 99, 107, 45, 108, 101, 118, 101, 108] at_ (!(decide (lk ≤ ul))) 20)) [107, 105, 99, 107, 45, 116, 97, 114, 103, 101, 116] at_ (decide (uk < ul)) 20 m3 TT3.out (by have h0 := HNL.out; have e0 := askL_len (ks) (done) (Co.ask [117, 110, 98, 97, 110, 45, 108, 101, 118, 101, 108] at_ (!(decide (lb ≤ ul))) 20); have e1 := askL_len (askL (ks) (done) (Co.ask [117, 110, 98, 97, 110, 45, 108, 101, 118, 101, 108] at_ (!(decide (lb ≤ ul))) 20)) (askD (done) (Co.ask [117, 110, 98, 97, 110, 45, 108, 101, 118, 101, 108] at_ (!(decide (lb ≤ ul))) 20)) (Co.ask [107, 105, 99, 107, 45, 108, 101, 118, 101, 108] at_ (!(decide (lk ≤ ul))) 20); omega)).mono ?_
   rintro r m4 ⟨rfl, q4, ht, hp⟩
   have TT4 := hid ht
   have PP4 := hid (PP3.out.tr hp)
   have VV4 := hid (VV3.out.ask hp)
   clear ht hp
   have hv5 := (VV4.out.1.cell 5).trans HVC5.out
   have hv6 := (VV4.out.1.cell 6).trans HVC6.out
   have hv7 := (VV4.out.1.cell 7).trans HVC7.out
   go_wp2_with fail
   go_end0
   exact ⟨rfl, q4, by rw [HRK.out]; exact TT4.out, PP4.out⟩
  ·have HRK : Hid (R = [Co.ask [107, 105, 99, 107, 45, 108, 101, 118, 101, 108] at_ (!(decide (lk ≤ ul))) 20, Co.ask [107, 105, 99, 107, 45, 116, 97, 114, 103, 101, 116] at_ (!(decide (uk < ul))) 20]) := hid (by rw [HR.out, if_neg (by decide), if_pos rfl, if_neg h4]; rfl)
   have hn4 := eqb_false h4
   clear h4
   go_wp2_with fail
   refine (must_any g q rule id err (ks) (done) [107, 105, 99, 107, 45, 108, 101, 118, 101, 108] at_ (decide (lk ≤ ul)) 20 rb TT0.out (by have h0 := HNL.out; omega)).mono ?_
   rintro r m5 ⟨rfl, q5, ht, hp⟩
   have TT5 := hid ht
   have PP5 := hid (PP0.out.tr hp)
   have VV5 := hid (VV0.out.ask hp)
   clear ht hp
   have hv5 := (VV5.out.1.cell 5).trans HVC5.out
   have hv6 := (VV5.out.1.cell 6).trans HVC6.out
   have hv7 := (VV5.out.1.cell 7).trans HVC7.out
   go_wp2_with fail
   refine (must_any g q5 rule id err (askL (ks) (done) (Co.ask [107, 105, 99, 107, 45, 108, 101, 118, 101, 108] at_ (!(decide (lk ≤ ul))) 20)) (askD (done) (Co.ask [107, 105, 99, 107, 45, 108, 101, 118, 101, 108] at_ (!(decide (lk ≤ ul))) 20)) [107, 105, 99, 107, 45, 116, 97, 114, 103, 101, 116] at_ (decide (uk < ul)) 20 m5 TT5.out (by have h0 := HNL.out; have e0 := askL_len (ks) (done) (Co.ask [107, 105, 99, 107, 45, 108, 101, 118, 101, 108] at_ (!(decide (lk ≤ ul))) 20); omega)).mono ?_
   rintro r m6 ⟨rfl, q6, ht, hp⟩
   have TT6 := hid ht
   have PP6 := hid (PP5.out.tr hp)
   have VV6 := hid (VV5.out.ask hp)
   clear ht hp
   have hv5 := (VV6.out.1.cell 5).trans HVC5.out
   have hv6 := (VV6.out.1.cell 6).trans HVC6.out
   have hv7 := (VV6.out.1.cell 7).trans HVC7.out
   go_wp2_with fail
   go_end0
   exact ⟨rfl, q6, by rw [HRK.out]; exact TT6.out, PP6.out⟩
 by_cases h4 : nn = 4
 ·subst h4
  have HRK : Hid (R = [Co.ask [98, 97, 110, 45, 108, 101, 118, 101, 108] at_ (!(decide (lb ≤ ul))) 20, Co.ask [98, 97, 110, 45, 116, 97, 114, 103, 101, 116] at_ (!(decide (uk < ul))) 20]) := hid HR.out
  go_wp2_with fail
  refine (must_any g q rule id err (ks) (done) [98, 97, 110, 45, 108, 101, 118, 101, 108] at_ (decide (lb ≤ ul)) 20 rb TT0.out (by have h0 := HNL.out; omega)).mono ?_
  rintro r m7 ⟨rfl, q7, ht, hp⟩
  have TT7 := hid ht
  have PP7 := hid (PP0.out.tr hp)
  have VV7 := hid (VV0.out.ask hp)
  clear ht hp
  have hv5 := (VV7.out.1.cell 5).trans HVC5.out
  have hv6 := (VV7.out.1.cell 6).trans HVC6.out
  have hv7 := (VV7.out.1.cell 7).trans HVC7.out
  go_wp2_with fail
  refine (must_any g q7 rule id err (askL (ks) (done) (Co.ask [98, 97, 110, 45, 108, 101, 118, 101, 108] at_ (!(decide (lb ≤ ul))) 20)) (askD (done) (Co.ask [98, 97, 110, 45, 108, 101, 118, 101, 108] at_ (!(decide (lb ≤ ul))) 20)) [98, 97, 110, 45, 116, 97, 114, 103, 101, 116] at_ (decide (uk < ul)) 20 m7 TT7.out (by have h0 := HNL.out; have e0 := askL_len (ks) (done) (Co.ask [98, 97, 110, 45, 108, 101, 118, 101, 108] at_ (!(decide (lb ≤ ul))) 20); omega)).mono ?_
  rintro r m8 ⟨rfl, q8, ht, hp⟩
  have TT8 := hid ht
  have PP8 := hid (PP7.out.tr hp)
  have VV8 := hid (VV7.out.ask hp)
  clear ht hp
  have hv5 := (VV8.out.1.cell 5).trans HVC5.out
  have hv6 := (VV8.out.1.cell 6).trans HVC6.out
  have hv7 := (VV8.out.1.cell 7).trans HVC7.out
  go_wp2_with fail
  go_end0
  exact ⟨rfl, q8, by rw [HRK.out]; exact TT8.out, PP8.out⟩
 have HRK : Hid (R = []) := hid (by rw [HR.out, if_neg h1, if_neg h0, if_neg h4])
 have e1 := eqb_false h1
 have e0 := eqb_false h0
 have e4 := eqb_false h4
 clear h1 h0 h4
 go_wp2_with fail
 go_end0
 exact ⟨rfl, q, by rw [HRK.out]; exact TT0.out, PP0.out⟩
end Go.Proofs.YtacjhbbieeliaaaGreatDoor
