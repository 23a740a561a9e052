/- The text Gd. -/
import Derived.Test.YtchkiegehejfmaaGreatDoorMsay
import Derived.Test.YtchkiegehejfmaaGreatDoorMsaw
set_option linter.unusedSimpArgs false
set_option maxHeartbeats 16000000
set_option maxRecDepth 100000
set_option linter.unusedVariables false
namespace Pr
theorem name_no {s : Str} {L : List Rl} {k : Nat} {y : Rl} (h : ∀ z ∈ L.take k, (z.name == s) = false) (hy : L[k]? = some y) (hn : (y.name == s) = false) : ∀ z ∈ L.take (k + 1), (z.name == s) = false := fun z hz => by
 obtain ⟨h1, h2⟩ := List.getElem?_eq_some_iff.1 hy;rw [List.take_succ_eq_append_getElem h1, h2] at hz;rcases List.mem_append.1 hz with hz | hz
 ·exact h z hz
 ·rw [List.mem_singleton.1 hz]; exact hn
end Pr
namespace Go.Proofs.YtchkiegehejfmaaGreatDoor
open Go.RowKit Go.Lib
theorem RlV.nm {w : World} {ok : Nat → Prop} {cs : List Value} {r : Pr.Rl} {b o : Nat} (h : RlV w ok cs.toArray r) (hr : w.rangeAt b o cs) : w.cell? ⟨b, o, none⟩ = some (.string (bstr r.name)) := by
 obtain ⟨A, cap, D, dcap, e, -⟩ := h;have e2 : cs = #[.string (bstr r.name), .int .i64 r.wh.op, .string (bstr r.wh.text), .int .i64 r.wh.num, .slice A r.wh.kids.length cap, .slice D r.acts.length dcap].toList := by rw [← e]
 subst e2;have := hr 0 _ rfl;rwa [Nat.add_zero] at this
theorem FT (ok ok' : Nat → Prop) (l : List Pr.Rl) (E : Option Addr) (ecap : Nat) (x : Pr.Rl) (X : Array Value) (w : World) (hn : l.length ≤ 1000000) (hl : RlRow w ok' E l) (hx : RlV w ok X x) (hg : x.Good) :
  Calls Tryz.prog 54 #[.slice E l.length ecap, .agg X] w fun e w' => e = .returned (.int .i64 (Pr.ruleE l x)) ∧ Below w.heap.size w w' := by
 have hb1 := (Below.refl w.heap.size w).alloc (Nat.le_refl _) (.cells X 45);have HB1 := hid hb1;obtain ⟨A, cap, D, dcap, hdc, hru⟩ := RuX.new hx;have HR1 := hid hru;have HL1 := hid (hl.bel hb1);obtain ⟨hg1, hg2, hg3, hg4⟩ := hg;have HGS := hid hg2;have HGA := hid hg4;clear hl hx hb1 hru hg2 hg4;generalize hw1 : w.alloc (.cells X 45) = w1 at *;have h10 := HR1.out.nm;have HN := hid (fun W => Ce true (bstr x.name) W (by rw [Ai]; exact hg1));rw [show (bstr x.name).data.toList = x.name from rfl] at HN;have HSZ : Hid ((Tryz.prog.info? 36).map (·.size) = some ([.int .i64 x.wh.op, .string (bstr x.wh.text), .int .i64 x.wh.num, .slice A x.wh.kids.length cap] : List Value).length) := hid (by rw [Aa]; rfl);have HRE : Hid (Pr.ruleE l x = if Pr.okName true x.name = false then 3 else if l.any (fun y => y.name == x.name) then 4 else if 40 < Pr.nodes x.wh ∨ 8 < Pr.depth x.wh then 29 else if Pr.treeE x.wh ≠ 0 then Pr.treeE x.wh else Pr.doE x.acts) := hid rfl;obtain ⟨Z, hZ⟩ : ∃ Z, Pr.ruleE l x = Z := ⟨_, rfl⟩;rw [hZ] at HRE ⊢;clear hZ;have HEQ := hid (fun y => AD y x.name);generalize hNM : bstr x.name = NM at *;have HNM := hid hNM;clear hNM;go_enter Tryz.func54, Tryz.ntmps54;go_wp2_with fail;refine (HN.out _).mono ?_;rintro e w2 ⟨rfl, rfl⟩
 cases hok : Pr.okName true x.name with
 | false =>
  have HZ : Hid (Z = 3) := hid (by rw [HRE.out, if_pos hok]);go_wp2_with fail;go_ret;exact ⟨congrArg (fun z => Ending.returned (.int .i64 z)) HZ.out.symm, HB1.out⟩
 | true =>
  have HOK := hid hok;clear hok;go_wp2_with fail
  go_loopw [5] (fun ix wr => ∃ k : Nat, k ≤ l.length ∧ ix = .int .i64 (k : Int) ∧ Below w1.heap.size w1 wr ∧ ∀ z ∈ l.take k, (z.name == x.name) = false) (fun ix _ => l.length - (RowKit.intOf ix).toNat)
  case atStart => exact ⟨0, Nat.zero_le _, rfl, Below.refl _ _, fun z hz => by simp at hz⟩
  case round =>
   obtain ⟨k, hk, rfl, hb, hall⟩ := hrel;obtain ⟨w2, rfl⟩ : ∃ w2, w2 = wr := ⟨_, rfl⟩;have HALL := hid hall;have HBK := hid hb;have HB2 := hid (HB1.out.trans (hb.mono HB1.out.size));have HR2 := hid (HR1.out.bel hb);have h10w := HR2.out.nm;rw [HNM.out] at h10w;clear hb hall;by_cases hlt : k < l.length
   ·obtain ⟨y, hy⟩ : ∃ y, l[k]? = some y := ⟨_, List.getElem?_eq_getElem hlt⟩;obtain ⟨b, off, cs, rfl, hok, hrg, hcl, hcv⟩ := (HL1.out.bel HBK.out) k y hy;have hyc := hcv.nm hrg;have hyx : ((bstr y.name).toList == NM.toList) = (y.name == x.name) := by rw [← HNM.out, Lib.toList_data, Lib.toList_data]; rfl
    have HXK := hid hy;have HAY : Hid ((y.name == x.name) = true → l.any (fun y => y.name == x.name) = true) := hid (fun h => List.any_eq_true.2 ⟨y, List.mem_of_getElem? HXK.out, h⟩);have HNO : Hid ((y.name == x.name) = false → ∀ z ∈ l.take (k + 1), (z.name == x.name) = false) := hid (fun h => Pr.name_no HALL.out HXK.out h);have hkI : (k : Int) < (l.length : Int) := by omega
    clear hy hcv hrg;generalize bstr y.name = YN at *
    cases hq : (y.name == x.name) with
    | true =>
     have HZ : Hid (Z = 4) := hid (by rw [HRE.out, if_neg (by rw [HOK.out]; decide), if_pos (HAY.out hq)]);rw [hq] at hyx;clear hq;go_wp2_with fail
     go_quiet (fail)
     go_wp2_with fail;go_ret;exact ⟨congrArg (fun z => Ending.returned (.int .i64 z)) HZ.out.symm, below_drewN HB2.out _⟩
    | false =>
     have HN2 := hid (HNO.out hq);rw [hq] at hyx;clear hq;go_wp2_with fail
     go_quiet (fail)
     go_wp2_with fail
     go_roundw
     case rel => exact ⟨k + 1, hlt, by go_num, below_drewN HBK.out _, HN2.out⟩
     case measure => simp [RowKit.intOf]; omega
   ·obtain rfl : k = l.length := by omega
    have HRE2 : Hid (Z = if 40 < Pr.nodes x.wh ∨ 8 < Pr.depth x.wh then 29 else if Pr.treeE x.wh ≠ 0 then Pr.treeE x.wh else Pr.doE x.acts) := hid (by rw [HRE.out, if_neg (by rw [HOK.out]; decide), if_neg (by rw [List.any_eq_false.2 (fun z hz => by rw [HALL.out z (by rw [List.take_length]; exact hz)]; decide)]; decide)]);have hrg2 := HR2.out.wh;go_wp2_with ((with_reducible refine wpList_load_mid rfl 36 _ rfl w.heap.size 1 ?_ _ _ hrg2 Tryz.underlying36 ?_ HSZ.out ?_); rfl; rfl);refine (B7 (Pr.nodes x.wh) ok x.wh _ w2 (Nat.le_refl _) hg3 HR2.out.cn).mono ?_;rintro e w3 ⟨rfl, hb3⟩;have HB3 := hid (HB2.out.trans (hb3.mono HB2.out.size));have HR3 := hid (HR2.out.bel hb3);clear hb3;by_cases h40 : 40 < Pr.nodes x.wh
    ·have HZ : Hid (Z = 29) := hid (by rw [HRE2.out, if_pos (.inl h40)]);have h40i : (40 : Int) < (Pr.nodes x.wh : Int) := by omega
     go_wp2_with fail;go_ret;exact ⟨congrArg (fun z => Ending.returned (.int .i64 z)) HZ.out.symm, HB3.out⟩
    ·have h40i : ¬ (40 : Int) < (Pr.nodes x.wh : Int) := by omega
     have h40d : decide ((40 : Int) < (Pr.nodes x.wh : Int)) = false := decide_eq_false h40i;have hrg3 := HR3.out.wh;go_wp2_with (refine BG (by simp only [h40d]; rfl) 36 _ rfl w.heap.size 1 rfl _ _ hrg3 Tryz.underlying36 rfl HSZ.out ?_);refine (CH (Pr.nodes x.wh) ok x.wh _ w3 (Nat.le_refl _) hg3 HR3.out.cn).mono ?_;rintro e w4 ⟨rfl, hb4⟩;have HB4 := hid (HB3.out.trans (hb4.mono HB3.out.size));have HR4 := hid (HR3.out.bel hb4);clear hb4;by_cases h8 : 8 < Pr.depth x.wh
     ·have HZ : Hid (Z = 29) := hid (by rw [HRE2.out, if_pos (.inr h8)]);have h8i : (8 : Int) < (Pr.depth x.wh : Int) := by omega
      go_wp2_with fail;go_ret;exact ⟨congrArg (fun z => Ending.returned (.int .i64 z)) HZ.out.symm, HB4.out⟩
     ·have h8i : ¬ (8 : Int) < (Pr.depth x.wh : Int) := by omega
      have HRE3 : Hid (Z = if Pr.treeE x.wh ≠ 0 then Pr.treeE x.wh else Pr.doE x.acts) := hid (by rw [HRE2.out, if_neg (by omega)]);have hrg4 := HR4.out.wh;go_wp2_with ((with_reducible refine wpList_load_mid rfl 36 _ rfl w.heap.size 1 ?_ _ _ hrg4 Tryz.underlying36 ?_ HSZ.out ?_); rfl; rfl);refine (DY (Pr.nodes x.wh) ok x.wh _ w4 (Nat.le_refl _) hg3 HGS.out HR4.out.cn).mono ?_;rintro e w5 ⟨rfl, hb5⟩;have HB5 := hid (HB4.out.trans (hb5.mono HB4.out.size));have HR5 := hid (HR4.out.bel hb5);clear hb5;generalize Pr.treeE x.wh = T at *;by_cases hT : T = 0
      ·subst hT;have HZ : Hid (Z = Pr.doE x.acts) := hid (by rw [HRE3.out, if_neg (by simp)]);have h55 := HR5.out.dl;go_wp2_with fail;refine (D9 x.acts D dcap w5 HGA.out HR5.out.rd).mono ?_;rintro e w6 ⟨rfl, hb6⟩;have HB6 := hid (HB5.out.trans (hb6.mono HB5.out.size));clear hb6;go_wp2_with fail;go_ret;exact ⟨congrArg (fun z => Ending.returned (.int .i64 z)) HZ.out.symm, HB6.out⟩
      ·have HZ : Hid (Z = T) := hid (by rw [HRE3.out, if_pos hT]);have hTb : (T == 0) = false := beq_eq_false_iff_ne.2 hT;have hTn : (T != 0) = true := by rw [bne, hTb]; rfl
       clear hT;go_wp2_with fail;go_ret;exact ⟨congrArg (fun z => Ending.returned (.int .i64 z)) HZ.out.symm, HB5.out⟩
theorem E5 (ok : Nat → Prop) (l : List Pr.Rl) (A : Option Addr) (cap : Nat) (w : World) (hn : l.length ≤ 1000000) (hcap : l.length ≤ cap) (hl : RlRow w ok A l) (hg : ∀ x ∈ l, x.Good) :
  Calls Tryz.prog 24 #[.slice A l.length cap] w fun e w' => e = .returned (.int .i64 (Pr.checkE l)) ∧ Below w.heap.size w w' := by
 have HR := hid hl;have HG := hid hg;clear hl hg;by_cases h100 : 100 < l.length
 ·have hd : Pr.checkE l = 7 := by unfold Pr.checkE; rw [if_pos h100]
  have h5i : (100 : Int) < (l.length : Int) := by omega
  rw [hd];clear hd;go_enter Tryz.func24, Tryz.ntmps24;go_wp2_with fail;go_ret;exact ⟨rfl, Below.refl _ _⟩
 have hd : Pr.checkE l = Pr.rulesE [] l := by unfold Pr.checkE; rw [if_neg h100]
 have h5i : ¬ (100 : Int) < (l.length : Int) := by omega
 obtain ⟨Z, hZ⟩ : ∃ Z, Pr.rulesE [] l = Z := ⟨_, rfl⟩;rw [hd, hZ];have HZ0 := hid hZ;clear hd hZ;go_enter Tryz.func24, Tryz.ntmps24;go_wp2_with fail
 go_loopw [3] (fun ix wr => ∃ k : Nat, k ≤ l.length ∧ ix = .int .i64 (k : Int) ∧ Pr.rulesE (l.take k) (l.drop k) = Z ∧ Below w.heap.size w wr) (fun ix _ => l.length - (RowKit.intOf ix).toNat)
 case atStart => exact ⟨0, Nat.zero_le _, rfl, HZ0.out, Below.refl _ _⟩
 case round =>
  obtain ⟨k, hk, rfl, he, hb⟩ := hrel;have HE := hid he;have HB := hid hb;have hws := hb.size;clear he hb;by_cases hlt : k < l.length
  ·obtain ⟨x, hx⟩ : ∃ x, l[k]? = some x := ⟨_, List.getElem?_eq_getElem hlt⟩;obtain ⟨b, off, cs, rfl, hok, hr, hcl, hcv⟩ := (HR.out.bel HB.out) k x hx
   have HST : Hid (Pr.rulesE (l.take k) (l.drop k) = if Pr.ruleE (l.take k) x ≠ 0 then Pr.ruleE (l.take k) x else Pr.rulesE (l.take (k + 1)) (l.drop (k + 1))) := hid (by
    obtain ⟨h1, h2⟩ := List.getElem?_eq_some_iff.1 hx
    rw [List.drop_eq_getElem_cons h1, h2, Pr.rulesE_step, AS hx])
   have HGX := hid (HG.out x (List.mem_of_getElem? hx));have HCV := hid hcv;have hone := hcv.one;have HL2 : Hid ((Tryz.prog.info? 45).map (·.size) = some cs.length) := hid (by rw [AB, hcl]);have HL3 : Hid ((Tryz.prog.info? 45).map (·.size) = some cs.toArray.size) := hid (by rw [AB, List.size_toArray, hcl]);have HSZ : Hid (zRl.size = cs.toArray.size) := hid (by show 6 = cs.toArray.size; rw [List.size_toArray, hcl]);have hlk : (l.take k).length = k := by rw [List.length_take]; omega
   have HLK := hid hlk;have hnk : k ≤ cap := by omega
   clear hx hcv hlk;go_wp2_with fail;have HRG := hid hr;have hbl := AL hr (by omega);clear hr;refine wp_region_noPanic ?_;refine wp_region_held_drew (S := fun W => W.rangeAt b (off + k * 6) cs) (by kernel_rfl) (HRG.out) (fun hHeld => ?_);refine wpAnyH_take (i := 0) (oi := _) (v := ?_) rfl (by kernel_rfl) (by kernel_rfl) (by kernel_rfl) (fun _ _ _ h => h) (Or.inl ⟨by kernel_rfl, ?_⟩) hHeld ?_;rotate_left
   ·intro wq hSw;go_simp
    (try with_reducible rfl)
   (try simp only [Act.put, pk1, pk2, pk3, pk4, pk5, pk6])
   refine wpAnyH_take (i := 1) (oi := _) (v := ?_) rfl (by kernel_rfl) (by kernel_rfl) (by kernel_rfl) (fun _ _ _ h => h) (Or.inl ⟨by kernel_rfl, ?_⟩) hHeld ?_;rotate_left
   ·intro wq hSw;go_simp
    (try with_reducible rfl)
   (try simp only [Act.put, pk1, pk2, pk3, pk4, pk5, pk6])
   refine wpAnyH_take (i := 2) (oi := _) (v := ?_) rfl (by kernel_rfl) (by kernel_rfl) (by kernel_rfl) (fun _ _ _ h => h) (Or.inl ⟨by kernel_rfl, ?_⟩) hHeld ?_;rotate_left
   ·intro wq hSw;go_simp
    (try with_reducible rfl)
   (try simp only [Act.put, pk1, pk2, pk3, pk4, pk5, pk6])
   refine wpAnyH_take (i := 3) (oi := _) (v := ?_) rfl (by kernel_rfl) (by kernel_rfl) (by kernel_rfl) (fun _ _ _ h => h) (Or.inl ⟨by kernel_rfl, ?_⟩) hHeld ?_;rotate_left
   ·intro wq hSw;go_simp
    (try with_reducible rfl)
   (try simp only [Act.put, pk1, pk2, pk3, pk4, pk5, pk6])
   refine wpAnyH_take (i := 4) (oi := _) (v := ?_) rfl (by kernel_rfl) (by kernel_rfl) (by kernel_rfl) (fun _ _ _ h => h) (Or.inl ⟨by kernel_rfl, ?_⟩) hHeld ?_;rotate_left
   ·intro wq hSw;go_simp
    (try with_reducible rfl)
   (try simp only [Act.put, pk1, pk2, pk3, pk4, pk5, pk6])
   refine wpAnyH_take (i := 5) (oi := _) (v := ?_) rfl (by kernel_rfl) (by kernel_rfl) (by kernel_rfl) (fun _ _ _ h => h) (Or.inl ⟨by kernel_rfl, ?_⟩) hHeld ?_;rotate_left
   ·intro wq hSw;go_simp
    (try with_reducible rfl)
   (try simp only [Act.put, pk1, pk2, pk3, pk4, pk5, pk6])
   refine wpAnyH_take (i := 6) (oi := _) (v := _) rfl (by kernel_rfl) (by kernel_rfl) (by kernel_rfl) (fun _ _ _ h => h) (AI rfl Tryz.underlying45 HL2.out (fun W h => h) (by kernel_rfl) _ rfl rfl) hHeld ?_
   (try simp only [Act.put, pk1, pk2, pk3, pk4, pk5, pk6])
   refine wpAnyH_ready (rs := [7]) (by kernel_rfl) (by simp) ?_;refine AllReadyH.cons (o := _) rfl (fun K hK => ?_) AllReadyH.nil;go_simp
   go_at_call 54
   have HQ := FT ok ok (l.take k) (some ⟨b, off, none⟩) cap x cs.toArray wr.drew (by rw [HLK.out]; omega) ((HR.out.bel HB.out).bel (Below.refl _ _).drew |>.take k) (HCV.out.bel (Below.refl _ _).drew) HGX.out;rw [HLK.out] at HQ;refine HQ.mono ?_;rintro e w4 ⟨rfl, hb4⟩;have hn4 : Below wr.heap.size wr w4 := (Below.refl wr.heap.size wr).drew.trans hb4;have HB4 := hid (HB.out.trans (hn4.mono hws));refine hK.out _ _ (Aw HRG.out (hn4.block _ hbl)) (fun hHeld2 => ?_);clear hK K hHeld;have hHeld := hHeld2;clear hHeld2
   (try simp only [Act.put, pk1, pk2, pk3, pk4, pk5, pk6])
   refine wpAnyH_take (i := 8) (oi := _) (v := ?_) rfl (by kernel_rfl) (by kernel_rfl) (by kernel_rfl) (fun _ _ _ h => h) (Or.inl ⟨by kernel_rfl, ?_⟩) hHeld ?_;rotate_left
   ·intro wq hSw;go_simp
    (try with_reducible rfl)
   (try simp only [Act.put, pk1, pk2, pk3, pk4, pk5, pk6])
   refine wpAnyH_done (by kernel_rfl) ?_ _;refine NoPanic.normal ?_;have HDZ : Hid (Z = if Pr.ruleE (l.take k) x ≠ 0 then Pr.ruleE (l.take k) x else Pr.rulesE (l.take (k + 1)) (l.drop (k + 1))) := hid (by rw [← HE.out, HST.out]);generalize Pr.ruleE (l.take k) x = F at *;by_cases hF : F = 0
   ·subst hF;have HZ2 : Hid (Pr.rulesE (l.take (k + 1)) (l.drop (k + 1)) = Z) := hid (by rw [HDZ.out, if_neg (by simp)]);go_wp2_with fail
    go_roundw
    case rel => exact ⟨k + 1, hlt, by go_num, HZ2.out, HB4.out⟩
    case measure => simp [RowKit.intOf]; omega
   ·have HZ2 : Hid (Z = F) := hid (by rw [HDZ.out, if_pos hF]);have hFb : (F == 0) = false := beq_eq_false_iff_ne.2 hF;have hFn : (F != 0) = true := by rw [bne, hFb]; rfl
    clear hF;go_wp2_with fail;go_ret;exact ⟨congrArg (fun z => Ending.returned (.int .i64 z)) HZ2.out.symm, HB4.out⟩
  ·obtain rfl : k = l.length := by omega
   have HZ2 : Hid (Z = 0) := hid (by rw [← HE.out, List.drop_length]; rfl);go_wp2_with fail;go_ret;exact ⟨congrArg (fun z => Ending.returned (.int .i64 z)) HZ2.out.symm, HB.out⟩
end Go.Proofs.YtchkiegehejfmaaGreatDoor
