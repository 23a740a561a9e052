/- The text Uu. -/
import Derived.Test.YtchkiegehejfmaaGreatDoorMsal
set_option linter.unusedSimpArgs false
set_option maxHeartbeats 16000000
set_option maxRecDepth 100000
set_option linter.unusedVariables false
namespace Pr
theorem Ev (x : Cn) (l : List Cn) : l.any (fun y => same x y) = decide (x ∈ l) := by
 induction l with
 | nil => rfl
 | cons y r ih =>
  rw [List.any_cons, ih, BT];by_cases h : x = y
  ·subst h; simp
  ·simp [h]
theorem gathF_step (zero unit : Cn) (out : List Cn) (x : Cn) (r : List Cn) : gathF zero unit out (x :: r) = if same x zero = true then none else if same x unit = false ∧ out.any (fun y => same x y) = false then gathF zero unit (out ++ [x]) r else gathF zero unit out r := by
 rw [gathF, Ev, BT, BT];by_cases h1 : x = zero <;> by_cases h2 : x = unit <;> by_cases h3 : x ∈ out <;> simp [h1, h2, h3]
def gFin (op : Int) (unit : Cn) : List Cn → Cn
 | [] => unit
 | [x] => x
 | x :: y :: G => .mk op [] 0 (x :: y :: G)
theorem gath_some (op : Int) (l : List Cn) (zero unit : Cn) (G : List Cn) (h : gathF zero unit [] l = some G) : gath op l zero unit = gFin op unit G := by
 have : ∀ o, gathF zero unit [] l = o → gath op l zero unit = match o with
  | none => zero
  | some [] => unit
  | some [x] => x
  | some out => .mk op [] 0 out := by intro o ho; subst ho; rfl
 rw [this _ h]
 match G with
 | [] => rfl
 | [x] => rfl
 | _ :: _ :: _ => rfl
end Pr
namespace Go.Proofs.YtchkiegehejfmaaGreatDoor
open Go.RowKit Go.Lib
theorem Ab {ops : Array Oper} {rest : List Oper} {o : Oper} {a : Act} {w : World} {Q : Exit → Act → World → Prop} (hgd : o.guard = none) (ty : TypeId) (x y : Operand) (ho : o.op = .store ty x y)
  (g : Nat) (cells : Array Value) (hx : a.eval x = .pointer (some ⟨g, 0, none⟩)) (hy : a.eval y = .agg cells)
  (t : TypeId) (old : Array Value) (hg : Blk w g t old) (hi : (Tryz.prog.info? ty).map (·.size) = some cells.size)
  (hold : old.size = cells.size) (h1 : cells.all (·.oneCell') = true)
  (h : ∀ w', Blk w' g t cells → w'.heap.size = w.heap.size → (∀ B, B ≤ g → Below B w w') → (∀ k, k ≠ g → w'.heap[k]? = w.heap[k]?) → wpList Tryz.prog ops Q rest (a.put o.dst undef) w') : wpList Tryz.prog ops Q (o :: rest) a w :=
 wpList_store_row hgd ty x y ho g cells hx hy t old hg hi hold h1
  (h _ (setRow_heap _ _ _ _ _ _ hg) (setRow_size _ _ _) (fun _ hB => below_setRow (Below.refl _ _) hB _) (fun k hk => setRow_other _ _ _ _ hk))
theorem Bw (m : Nat) (HSI : BB m) (ok okz oku : Nat → Prop) (op : Int) (ks : List Pr.Cn) (A : Option Addr) (cap : Nat) (zero unit : Pr.Cn) (Z U : Array Value) (w : World) (hm : Pr.nodesL ks ≤ m) (hm6 : m ≤ 100000) (hr : CnRow w ok A ks)
  (hz : CnV w okz Z zero) (hu : CnV w oku U unit) (hnz : Pr.nodes zero ≤ 10) (hnu : Pr.nodes unit ≤ 10) :
  Calls Tryz.prog 41 #[.int .i64 op, .slice A ks.length cap, .agg Z, .agg U] w fun e w' => (∃ X, e = .returned (.agg X) ∧ CnV w' (fun b => okz b ∨ oku b ∨ w.heap.size ≤ b) X (Pr.gath op (Pr.flat op ks) zero unit)) ∧ Below w.heap.size w w' := by
 have hb3 := (((Below.refl w.heap.size w).alloc (Nat.le_refl _) (.cells Z 36)).alloc (by rw [World.size_alloc]; exact Nat.le_succ _) (.cells U 36)).alloc (by rw [World.size_alloc, World.size_alloc]; omega) (.cells zCn 36);have hsz : (((w.alloc (.cells Z 36)).alloc (.cells U 36)).alloc (.cells zCn 36)).heap.size = w.heap.size + 3 := by rw [World.size_alloc, World.size_alloc, World.size_alloc]
 have hkz : Blk (((w.alloc (.cells Z 36)).alloc (.cells U 36)).alloc (.cells zCn 36)) w.heap.size 36 Z := ((Blk.new w 36 Z).alloc _).alloc _;have hku : Blk (((w.alloc (.cells Z 36)).alloc (.cells U 36)).alloc (.cells zCn 36)) (w.heap.size + 1) 36 U := by have := (Blk.new (w.alloc (.cells Z 36)) 36 U).alloc (.cells zCn 36); rw [World.size_alloc] at this; exact this
 have hkr : Blk (((w.alloc (.cells Z 36)).alloc (.cells U 36)).alloc (.cells zCn 36)) (w.heap.size + 2) 36 zCn := by have := Blk.new ((w.alloc (.cells Z 36)).alloc (.cells U 36)) 36 zCn; rw [World.size_alloc, World.size_alloc] at this; exact this
 have HSZ1 : Hid ((Tryz.prog.info? 36).map (·.size) = some Z.size) := hid (by rw [Aa, hz.size]);have HSU1 : Hid ((Tryz.prog.info? 36).map (·.size) = some U.size) := hid (by rw [Aa, hu.size]);have HOZ : Hid (zCn.size = Z.size) := hid (by rw [hz.size]; rfl);have HOU : Hid (zCn.size = U.size) := hid (by rw [hu.size]; rfl);have HZ := hid hz;have HU := hid hu;have HB1 := hid hb3;have HSZ := hid hsz;have HKZ := hid hkz;have HKU := hid hku;have HKR := hid hkr;have HR1 := hid (hr.below hb3);have hfn := Pr.flat_nodes op ks;have hfl := Pr.kids_nodes (Pr.flat op ks);have HFM : Hid (∀ c ∈ Pr.flat op ks, Pr.nodes c ≤ 200000) := hid (fun c hc => by have := Pr.nodes_mem hc; omega);have HF6 : Hid ((Pr.flat op ks).length ≤ 200000) := hid (by omega);clear hr hz hu hb3 hsz hkz hku hkr hfn hfl;generalize hw1 : ((w.alloc (.cells Z 36)).alloc (.cells U 36)).alloc (.cells zCn 36) = w1 at *;go_enter Tryz.func41, Tryz.ntmps41;go_wp2_with fail;refine (Gu m HSI ok op ks A cap w1 hm (by omega) HR1.out).mono ?_;rintro e w2 ⟨⟨B, cap', rfl, hcap, hrow⟩, hb2⟩;have HROW := hid hrow;have HB2 := hid (HB1.out.trans (hb2.mono HB1.out.size));have HKZ2 := hid (HKZ.out.below hb2 HKZ.out.lt);have HKU2 := hid (HKU.out.below hb2 HKU.out.lt);have HKR2 := hid (HKR.out.below hb2 HKR.out.lt);have hs12 := hb2.size;have hs12' : w.heap.size + 3 ≤ w2.heap.size := by have := HSZ.out; omega
 clear hrow hb2;obtain ⟨F, hF⟩ : ∃ F, Pr.flat op ks = F := ⟨_, rfl⟩;have HFE := hid hF;rw [hF] at HROW HFM HF6 hcap ⊢;clear hF;clear hw1 HKZ HKU HKR HR1;have hF6 := HF6.out;go_wp2_with fail
 go_loopw [9, 16] (fun out ix wr => ∃ (k : Nat) (G : List Pr.Cn), k ≤ F.length ∧ ix = .int .i64 (k : Int) ∧ Pr.gathF zero unit [] F = Pr.gathF zero unit G (F.drop k) ∧ G.length ≤ k ∧ (∀ c ∈ G, c ∈ F) ∧ CnO wr w2.heap.size (fun b => w1.heap.size ≤ b) out G ∧ Below w2.heap.size w2 wr) (fun _ ix _ => F.length - (RowKit.intOf ix).toNat)
 case atStart => exact ⟨0, [], Nat.zero_le _, rfl, rfl, Nat.le_refl _, (fun c h => by cases h), CnO.nil, Below.refl _ _⟩
 case round =>
  obtain ⟨k, G, hk, rfl, hg, hgl, hgm, ho, hb⟩ := hrel;have HG := hid hg;have HGM := hid hgm;have HO := hid ho;have HB := hid hb;have hws := hb.size;have HKZ := hid (HKZ2.out.below hb HKZ2.out.lt);have HKU := hid (HKU2.out.below hb HKU2.out.lt);have HKR := hid (HKR2.out.below hb HKR2.out.lt);have HZr := hid (HZ.out.bel (HB2.out.trans (hb.mono HB2.out.size)));have HUr := hid (HU.out.bel (HB2.out.trans (hb.mono HB2.out.size)));have HBr := hid (HB2.out.trans (hb.mono HB2.out.size));obtain ⟨A0, c0, rfl, hc0⟩ := HO.out.len;have hownlt : ∀ q, (Value.slice A0 G.length c0).ownBlock = some q → w2.heap.size ≤ q ∧ q < wr.heap.size := by
   intro q hq;obtain ⟨xs, h1, _⟩ := HO.out;exact h1.lt q hq
  clear ho hb hg hgm;by_cases hlt : k < F.length
  ·obtain ⟨x, hx⟩ : ∃ x, F[k]? = some x := ⟨_, List.getElem?_eq_getElem hlt⟩;obtain ⟨b, off, cs, rfl, hok, hr2, hcl, hcv⟩ := HROW.out k x hx;have hr : wr.rangeAt b (off + k * 4) cs := Aw hr2 (HB.out.block _ (AL hr2 (by omega)));have HCV : Hid (CnV wr (fun b => w1.heap.size ≤ b ∧ b < w2.heap.size) cs.toArray x) := hid (hcv.keep fun b hb hl => ⟨⟨hb, hl⟩, HB.out.block b hl⟩)
   have HST : Hid (Pr.gathF zero unit G (F.drop k) = if Pr.same x zero = true then none else if Pr.same x unit = false ∧ G.any (fun y => Pr.same x y) = false then Pr.gathF zero unit (G ++ [x]) (F.drop (k + 1)) else Pr.gathF zero unit G (F.drop (k + 1))) := hid (by
    obtain ⟨h1, h2⟩ := List.getElem?_eq_some_iff.1 hx
    rw [List.drop_eq_getElem_cons h1, h2, Pr.gathF_step])
   have HXM := hid (List.mem_of_getElem? hx);have hnx := HFM.out x (List.mem_of_getElem? hx);obtain ⟨A', c', hcse, -⟩ := HCV.out.open;have hcse2 : cs = [.int .i64 x.op, .string (bstr x.text), .int .i64 x.num, .slice A' x.kids.length c'] := by have := congrArg Array.toList hcse; simpa using this
   subst hcse2;have HL2 : Hid ((Tryz.prog.info? 36).map (·.size) = some ([.int .i64 x.op, .string (bstr x.text), .int .i64 x.num, .slice A' x.kids.length c'] : List Value).length) := hid (by rw [Aa]; rfl);have HS5 : Hid ((Tryz.prog.info? 36).map (·.size) = some (#[.int .i64 x.op, .string (bstr x.text), .int .i64 x.num, .slice A' x.kids.length c'] : Array Value).size) := hid (by rw [Aa]; rfl);have hbx := (Below.refl wr.heap.size wr).alloc (Nat.le_refl _) (.cells #[.int .i64 x.op, .string (bstr x.text), .int .i64 x.num, .slice A' x.kids.length c'] 36);have HKX := hid (Blk.new wr 36 #[.int .i64 x.op, .string (bstr x.text), .int .i64 x.num, .slice A' x.kids.length c']);have HKZ3 := hid (HKZ.out.alloc (.cells #[.int .i64 x.op, .string (bstr x.text), .int .i64 x.num, .slice A' x.kids.length c'] 36));have HKU3 := hid (HKU.out.alloc (.cells #[.int .i64 x.op, .string (bstr x.text), .int .i64 x.num, .slice A' x.kids.length c'] 36));have HCV3 := hid (HCV.out.bel hbx);have HZ3 := hid (HZr.out.bel hbx);have HU3 := hid (HUr.out.bel hbx);have HO3 := hid (HO.out.bel hbx);have HBX := hid hbx;have hs3 : (wr.alloc (.cells #[.int .i64 x.op, .string (bstr x.text), .int .i64 x.num, .slice A' x.kids.length c'] 36)).heap.size = wr.heap.size + 1 := World.size_alloc ..
   have HS3 := hid hs3;clear hx hcv hcse hbx hs3 hr2;obtain ⟨w3, hw3⟩ : ∃ w3, wr.alloc (.cells #[.int .i64 x.op, .string (bstr x.text), .int .i64 x.num, .slice A' x.kids.length c'] 36) = w3 := ⟨_, rfl⟩;rw [hw3] at HKX HKZ3 HKU3 HCV3 HZ3 HU3 HO3 HBX HS3;have hsu := True.intro
   go_wp2_with (first
    | ((with_reducible refine wpList_load_mid rfl 36 _ rfl b (off + k * 4) ?_ _ _ hr Tryz.underlying36 ?_ HL2.out ?_); rfl; rfl)
    | (refine Ac (by rfl) 36 _ rfl wr.heap.size rfl 36 _ (0, 0) _ rfl HKX.out Tryz.underlying36 HS5.out ?_)
    | (refine Ac (by rfl) 36 _ rfl w.heap.size rfl 36 _ (0, 0) _ rfl HKZ3.out Tryz.underlying36 HSZ1.out ?_))
   refine (Be (Pr.nodes x) _ okz x zero _ Z w3 (Nat.le_refl _) (by omega) HCV3.out HZ3.out).mono ?_;rintro e w4 ⟨rfl, hb4⟩;have hs34 := hb4.size;have HBX4 := hid (HBX.out.trans (hb4.mono HBX.out.size));have HB4 := hid (HB.out.trans (HBX4.out.mono hws));have HKX4 := hid (HKX.out.below hb4 HKX.out.lt);have HKZ4 := hid (HKZ3.out.below hb4 HKZ3.out.lt);have HKU4 := hid (HKU3.out.below hb4 HKU3.out.lt);have HKR4 := hid (HKR.out.below HBX4.out HKR.out.lt);have HCV4 := hid (HCV3.out.bel hb4);have HU4 := hid (HU3.out.bel hb4);have HO4 := hid (HO3.out.bel hb4);have HS4 : Hid (wr.heap.size + 1 ≤ w4.heap.size) := hid (by have := HS3.out; omega);clear hb4 hs34 hw3
   cases hsz : Pr.same x zero with
   | true =>
    have HFIN : Hid (Pr.gath op F zero unit = zero) := hid (by unfold Pr.gath; rw [HG.out, HST.out, if_pos hsz]);have hZ1 := HZ.out.one;clear hsz
    go_wp2_with (first
     | (refine Ac (by rfl) 36 _ rfl w.heap.size rfl 36 _ (0, 0) _ rfl HKZ4.out Tryz.underlying36 HSZ1.out ?_)
     | ((with_reducible refine Ab rfl 36 _ _ rfl (w.heap.size + 2) Z ?_ ?_ 36 _ HKR4.out HSZ1.out HOZ.out hZ1 ?_); rfl; rfl; intro w9 hk9 hs9 hbl9 hoth9))
    have HB9 : Hid (Below w.heap.size w w9) := hid ((HB2.out.trans (HB4.out.mono HB2.out.size)).trans (hbl9 w.heap.size (by omega)));exact bodyPost_ret (v := .agg Z) (results_cell_row rfl _ _ (w.heap.size + 2) 36 _ (0, 0) _ rfl hk9 Tryz.underlying36 rfl HSZ1.out) rfl ⟨⟨_, rfl, by rw [HFE.out, HFIN.out]; exact HZ.out.keep fun b hb hl => ⟨.inl hb, HB9.out.block b hl⟩⟩, HB9.out⟩
   | false =>
    go_wp2_with (first
     | (refine Ac (by rfl) 36 _ rfl wr.heap.size rfl 36 _ (0, 0) _ rfl HKX4.out Tryz.underlying36 HS5.out ?_)
     | (refine Ac (by rfl) 36 _ rfl (w.heap.size + 1) rfl 36 _ (0, 0) _ rfl HKU4.out Tryz.underlying36 HSU1.out ?_))
    refine (Be (Pr.nodes x) _ oku x unit _ U w4 (Nat.le_refl _) (by omega) HCV4.out HU4.out).mono ?_;rintro e w5 ⟨rfl, hb5⟩;have HB5 := hid (HB4.out.trans (hb5.mono HB4.out.size));have HBX5 := hid (HBX4.out.trans (hb5.mono HBX4.out.size));have HKX5 := hid (HKX4.out.below hb5 HKX4.out.lt);have HCV5 := hid (HCV4.out.bel hb5);have HO5 := hid (HO4.out.bel hb5);have HS5b : Hid (wr.heap.size + 1 ≤ w5.heap.size) := hid (by have := HS4.out; have := hb5.size; omega);clear hb5
    cases hsu : Pr.same x unit with
    | true =>
     have HG2 : Hid (Pr.gathF zero unit [] F = Pr.gathF zero unit G (F.drop (k + 1))) := hid (by rw [HG.out, HST.out, hsz, hsu, if_neg (by decide), if_neg (by simp)]);clear hsz hsu;go_wp2_with fail
     go_roundw
     case rel => exact ⟨k + 1, G, hlt, by go_num, HG2.out, by omega, HGM.out, HO5.out, HB5.out⟩
     case measure => simp [RowKit.intOf]; omega
    | false =>
     obtain ⟨A1, c1, e1, hc1, hrowG⟩ := HO5.out.row (ok' := fun b => w1.heap.size ≤ b) (fun b h => h) (fun q hq => by have := hownlt q hq; omega);injection e1 with e1 e2 e3;subst e1 e3;have HRG := hid hrowG;have HHS := hid (Hb _ _ x #[.int .i64 x.op, .string (bstr x.text), .int .i64 x.num, .slice A' x.kids.length c'] G A0 c0 wr.heap.size w5 (by omega) hrowG HCV5.out HKX5.out (by omega) (fun y hy => by have := HFM.out y (HGM.out y hy); omega));clear hrowG e2;go_wp2_with fail;refine HHS.out.mono ?_;rintro e w6 ⟨rfl, hb6⟩;have HB6 := hid (HB5.out.trans (hb6.mono HB5.out.size));have HBX6 := hid (HBX5.out.trans (hb6.mono HBX5.out.size));have HKX6 := hid (HKX5.out.below hb6 HKX5.out.lt);have HCV6 := hid (HCV5.out.bel hb6);have HO6 := hid (HO5.out.bel hb6);have hs6 : w2.heap.size ≤ w6.heap.size := HB6.out.size;clear hb6
     cases hin : G.any (fun y => Pr.same x y) with
     | true =>
      have HG2 : Hid (Pr.gathF zero unit [] F = Pr.gathF zero unit G (F.drop (k + 1))) := hid (by rw [HG.out, HST.out, hsz, hsu, hin, if_neg (by decide), if_neg (by simp)]);clear hsz hsu hin;go_wp2_with fail
      go_roundw
      case rel => exact ⟨k + 1, G, hlt, by go_num, HG2.out, by omega, HGM.out, HO6.out, HB6.out⟩
      case measure => simp [RowKit.intOf]; omega
     | false =>
      have HG2 : Hid (Pr.gathF zero unit [] F = Pr.gathF zero unit (G ++ [x]) (F.drop (k + 1))) := hid (by rw [HG.out, HST.out, hsz, hsu, hin, if_neg (by decide), if_pos ⟨rfl, rfl⟩]);have hbz := (Below.refl w6.heap.size w6).alloc (Nat.le_refl _) (.cells #[.int .i64 x.op, .string (bstr x.text), .int .i64 x.num, .slice A' x.kids.length c'] 36);obtain ⟨xs, hown, hcs⟩ := HO6.out.bel hbz;have HCS := hid hcs;have HCS2 := hid (CnsV.one ((HCV6.out.bel hbz).keep (ok' := fun b => w1.heap.size ≤ b ∧ some b ≠ (Value.slice A0 G.length c0).ownBlock) fun b hb _ => ⟨⟨hb.1, fun e => by have := (hownlt b e.symm).1; omega⟩, rfl⟩));have hrd := Rd.of_blk (vs := [.int .i64 x.op, .string (bstr x.text), .int .i64 x.num, .slice A' x.kids.length c']) (Blk.new w6 36 #[.int .i64 x.op, .string (bstr x.text), .int .i64 x.num, .slice A' x.kids.length c']);have HB7 := hid (HB6.out.alloc hs6 (.cells #[.int .i64 x.op, .string (bstr x.text), .int .i64 x.num, .slice A' x.kids.length c'] 36));have hs7 : w2.heap.size ≤ (w6.alloc (.cells #[.int .i64 x.op, .string (bstr x.text), .int .i64 x.num, .slice A' x.kids.length c'] 36)).heap.size := HB7.out.size;have hone2 : ∀ u ∈ ([.int .i64 x.op, .string (bstr x.text), .int .i64 x.num, .slice A' x.kids.length c'] : List Value), u.oneCell' = true := by intro u hu; simp at hu; rcases hu with rfl | rfl | rfl | rfl <;> rfl
      have hlen : G.length + 1 ≤ 100000000000 := by omega
      clear hsz hsu hin hcs hbz
      go_wp2_with (first
       | (refine Ac (by rfl) 36 _ rfl wr.heap.size rfl 36 _ (0, 0) _ rfl HKX6.out Tryz.underlying36 HS5.out ?_)
       | ((refine AC rowCn rfl _ _ rfl _ (.slice A0 G.length c0) _ xs _ w2.heap.size rfl hown _ 1 1 rfl hrd hone2 hs7 hlen ?_); intro v8 w8 ho8 hg8 hb8 hwh8))
      go_roundw
      case rel => exact ⟨k + 1, G ++ [x], hlt, by go_num, HG2.out, by rw [List.length_append]; show G.length + 1 ≤ k + 1; omega, (fun c hc => by rcases List.mem_append.1 hc with h | h; exact HGM.out c h; rw [List.mem_singleton.1 h]; exact HXM.out), CnO.app hown HCS.out HCS2.out ho8 hg8 hwh8, hb8 _ HB7.out⟩
      case measure => simp [RowKit.intOf]; omega
  ·obtain rfl : k = F.length := by omega
   have HFIN0 : Hid (Pr.gath op F zero unit = Pr.gFin op unit G) := hid (Pr.gath_some op F zero unit G (by rw [HG.out, List.drop_length]; rfl));obtain ⟨A1, c1, e1, hc1, hrowG⟩ := HO.out.row (ok' := fun b => w1.heap.size ≤ b) (fun b h => h) (fun q hq => by have := hownlt q hq; omega);injection e1 with e1 e2 e3;subst e1 e3;have HRG := hid hrowG;clear hrowG e2;have hs1 := HSZ.out;rcases G with _ | ⟨x, _ | ⟨y, G⟩⟩
   ·have HFIN : Hid (Pr.gath op F zero unit = unit) := HFIN0;have hU1 := HU.out.one;clear HFIN0;simp only [List.length_nil] at *
    go_wp2_with (first
     | (refine Ac (by rfl) 36 _ rfl (w.heap.size + 1) rfl 36 _ (0, 0) _ rfl HKU.out Tryz.underlying36 HSU1.out ?_)
     | ((with_reducible refine Ab rfl 36 _ _ rfl (w.heap.size + 2) U ?_ ?_ 36 _ HKR.out HSU1.out HOU.out hU1 ?_); rfl; rfl; intro w9 hk9 hs9 hbl9 hoth9))
    have HB9 : Hid (Below w.heap.size w w9) := hid (HBr.out.trans (hbl9 w.heap.size (by omega)));exact bodyPost_ret (v := .agg U) (results_cell_row rfl _ _ (w.heap.size + 2) 36 _ (0, 0) _ rfl hk9 Tryz.underlying36 rfl HSU1.out) rfl ⟨⟨_, rfl, by rw [HFE.out, HFIN.out]; exact HU.out.keep fun b hb hl => ⟨.inr (.inl hb), HB9.out.block b hl⟩⟩, HB9.out⟩
   ·have HFIN : Hid (Pr.gath op F zero unit = x) := HFIN0;obtain ⟨b, off, cs, rfl, hok, hr, hcl, hcv⟩ := HRG.out 0 x rfl;have HCV := hid hcv;have hone := hcv.one;rw [Nat.zero_mul, Nat.add_zero] at hr;have HL2 : Hid ((Tryz.prog.info? 36).map (·.size) = some cs.length) := hid (by rw [Aa, hcl]);have HL3 : Hid ((Tryz.prog.info? 36).map (·.size) = some cs.toArray.size) := hid (by rw [Aa, List.size_toArray, hcl]);have HSZ3 : Hid (zCn.size = cs.toArray.size) := hid (by show 4 = cs.toArray.size; rw [List.size_toArray, hcl]);clear hcv HFIN0;simp only [List.length_cons, List.length_nil, Nat.zero_add] at hc0 hc1 hgl ⊢
    go_wp2_with (first
     | ((with_reducible refine wpList_load_mid rfl 36 _ rfl b off ?_ cs _ hr Tryz.underlying36 ?_ HL2.out ?_); rfl; rfl)
     | ((with_reducible refine Ab rfl 36 _ _ rfl (w.heap.size + 2) cs.toArray ?_ ?_ 36 _ HKR.out HL3.out HSZ3.out hone ?_); rfl; rfl; intro w9 hk9 hs9 hbl9 hoth9))
    have HB9 : Hid (Below w.heap.size w w9) := hid (HBr.out.trans (hbl9 w.heap.size (by omega)));exact bodyPost_ret (v := .agg cs.toArray) (results_cell_row rfl _ _ (w.heap.size + 2) 36 _ (0, 0) _ rfl hk9 Tryz.underlying36 rfl HL3.out) rfl ⟨⟨_, rfl, by rw [HFE.out, HFIN.out]; exact HCV.out.keep fun b hb hl => ⟨.inr (.inr (by omega)), hoth9 b (by omega)⟩⟩, HB9.out⟩
   ·have HFIN : Hid (Pr.gath op F zero unit = .mk op [] 0 (x :: y :: G)) := HFIN0;clear HFIN0;have hn0 : ¬ ((x :: y :: G).length : Int) = 0 := by simp only [List.length_cons]; omega
    have hn1 : ¬ ((x :: y :: G).length : Int) = 1 := by simp only [List.length_cons]; omega
    have hq0 : (((x :: y :: G).length : Int) == 0) = false := beq_eq_false_iff_ne.2 hn0;have hq1 : (((x :: y :: G).length : Int) == 1) = false := beq_eq_false_iff_ne.2 hn1;have HFIN2 : Hid (Pr.gath op F zero unit = .mk op [] 0 (x :: y :: G)) := hid HFIN.out;have HLR : Hid ((Tryz.prog.info? 36).map (·.size) = some (#[.int .i64 op, .string ⟨#[]⟩, .int .i64 0, .slice A0 (x :: y :: G).length c0] : Array Value).size) := hid (by rw [Aa]; rfl);clear HFIN;generalize hGG : x :: y :: G = GG at *;clear hGG
    go_wp2_with (first
     | ((with_reducible refine Ab rfl 36 _ _ rfl (w.heap.size + 2) #[.int .i64 op, .string ⟨#[]⟩, .int .i64 0, .slice A0 GG.length c0] ?_ ?_ 36 _ HKR.out HLR.out rfl (AJ _ _ _ _ _ _) ?_); rfl; rfl; intro w9 hk9 hs9 hbl9 hoth9))
    have HB9 : Hid (Below w.heap.size w w9) := hid (HBr.out.trans (hbl9 w.heap.size (by omega)));exact bodyPost_ret (v := .agg #[.int .i64 op, .string ⟨#[]⟩, .int .i64 0, .slice A0 GG.length c0]) (results_cell_row rfl _ _ (w.heap.size + 2) 36 _ (0, 0) _ rfl hk9 Tryz.underlying36 rfl HLR.out) rfl ⟨⟨_, rfl, by rw [HFE.out, HFIN2.out]; exact CnV.make (HRG.out.keep fun b hb hl => ⟨.inr (.inr (by omega)), hoth9 b (by omega)⟩)⟩, HB9.out⟩
end Go.Proofs.YtchkiegehejfmaaGreatDoor
