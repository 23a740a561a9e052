/- The texts Up, W4 of this proof, one behind the other. -/
import Derived.Test.YtchkiegehejfmaaGreatDoorMsav
import Derived.Test.YtchkiegehejfmaaGreatDoorMsan
set_option linter.unusedSimpArgs false
set_option maxHeartbeats 16000000
set_option maxRecDepth 100000
set_option linter.unusedVariables false
namespace Pr
theorem rulesE_step (e : List Rl) (x : Rl) (r : List Rl) : rulesE e (x :: r) = if ruleE e x ≠ 0 then ruleE e x else rulesE (e ++ [x]) r := by rw [rulesE]
end Pr
namespace Go.Proofs.YtchkiegehejfmaaGreatDoor
open Go.RowKit Go.Lib
theorem B9 (ok : Nat → Prop) (l : List Pr.Rl) (A : Option Addr) (cap : Nat) (w : World) (hn : l.length ≤ 1000000) (hcap : l.length ≤ cap) (hl : RlRow w ok A l) (hg : ∀ x ∈ l, x.Good) :
  Calls Tryz.prog 23 #[.slice A l.length cap] w fun e w' => e = .returned (.int .i64 (Pr.checkE l)) ∧ Below w.heap.size w w' := by
 have HR := hid hl;have HG := hid hg;clear hl hg;by_cases h100 : 100 < l.length
 ·have hd : Pr.checkE l = 7 := by unfold Pr.checkE; rw [if_pos h100]
  have h5i : (100 : Int) < (l.length : Int) := by omega
  rw [hd];clear hd;go_enter Tryz.func23, Tryz.ntmps23;go_wp2_with fail;go_ret;exact ⟨rfl, Below.refl _ _⟩
 have hd : Pr.checkE l = Pr.rulesE [] l := by unfold Pr.checkE; rw [if_neg h100]
 have h5i : ¬ (100 : Int) < (l.length : Int) := by omega
 obtain ⟨Z, hZ⟩ : ∃ Z, Pr.rulesE [] l = Z := ⟨_, rfl⟩;rw [hd, hZ];have HZ0 := hid hZ;clear hd hZ;go_enter Tryz.func23, Tryz.ntmps23;go_wp2_with fail
 go_loopw [11] (fun ix wr => ∃ k : Nat, k ≤ l.length ∧ ix = .int .i64 (k : Int) ∧ Pr.rulesE (l.take k) (l.drop k) = Z ∧ Below w.heap.size w wr) (fun ix _ => l.length - (RowKit.intOf ix).toNat)
 case atStart => exact ⟨0, Nat.zero_le _, rfl, HZ0.out, Below.refl _ _⟩
 case round =>
  obtain ⟨k, hk, rfl, he, hb⟩ := hrel;have HE := hid he;have HB := hid hb;have hws := hb.size;clear he hb;by_cases hlt : k < l.length
  ·obtain ⟨x, hx⟩ : ∃ x, l[k]? = some x := ⟨_, List.getElem?_eq_getElem hlt⟩;obtain ⟨b, off, cs, rfl, hok, hr, hcl, hcv⟩ := (HR.out.bel HB.out) k x hx
   have HST : Hid (Pr.rulesE (l.take k) (l.drop k) = if Pr.ruleE (l.take k) x ≠ 0 then Pr.ruleE (l.take k) x else Pr.rulesE (l.take (k + 1)) (l.drop (k + 1))) := hid (by
    obtain ⟨h1, h2⟩ := List.getElem?_eq_some_iff.1 hx
    rw [List.drop_eq_getElem_cons h1, h2, Pr.rulesE_step, AS hx])
   have HGX := hid (HG.out x (List.mem_of_getElem? hx));have HCV := hid hcv;have hone := hcv.one;have HL2 : Hid ((Tryz.prog.info? 45).map (·.size) = some cs.length) := hid (by rw [AB, hcl]);have HL3 : Hid ((Tryz.prog.info? 45).map (·.size) = some cs.toArray.size) := hid (by rw [AB, List.size_toArray, hcl]);have HSZ : Hid (zRl.size = cs.toArray.size) := hid (by show 6 = cs.toArray.size; rw [List.size_toArray, hcl]);have hlk : (l.take k).length = k := by rw [List.length_take]; omega
   have HLK := hid hlk;have hnk : k ≤ cap := by omega
   clear hx hcv hlk
   go_wp2_with (first
    | ((with_reducible refine wpList_load_mid rfl 45 _ rfl b (off + k * 6) ?_ cs _ hr Tryz.underlying45 ?_ HL2.out ?_); rfl; rfl)
    | ((with_reducible refine Ah rfl 45 _ _ rfl wr.heap.size cs.toArray ?_ ?_ 45 _ (Blk.new wr 45 _) HL3.out ?_ hone ?_); rfl; rfl; exact HSZ.out; intro w3 hk3 hs3 hbl3))
   have HBR : Hid (Below wr.heap.size wr w3) := hid (((Below.refl _ wr).alloc (Nat.le_refl _) (.cells zRl 45)).trans (hbl3 wr.heap.size (Nat.le_refl _)))
   have HK3 : Hid (w3.rangeAt wr.heap.size 0 cs) := hid (fun j v hj => by
    have := (show Blk w3 wr.heap.size 45 cs.toArray from hk3).cell (0 + j);rw [this, Nat.zero_add, List.getElem?_toArray]
    exact hj)
   clear hk3 hs3 hbl3;refine wp_region_noPanic ?_;refine wp_region_held_drew (S := fun W => W.rangeAt wr.heap.size 0 cs) (by kernel_rfl) HK3.out (fun hHeld => ?_);refine wpAnyH_take (i := 0) (oi := _) (v := ?_) rfl (by kernel_rfl) (by kernel_rfl) (by kernel_rfl) (fun _ _ _ h => h) (Or.inl ⟨by rfl, ?_⟩) hHeld ?_;rotate_left
   ·intro wq hSw;go_simp
    (try with_reducible rfl)
   (try simp only [Act.put, pk1, pk2, pk3, pk4, pk5, pk6])
   refine wpAnyH_take (i := 1) (oi := _) (v := ?_) rfl (by kernel_rfl) (by kernel_rfl) (by kernel_rfl) (fun _ _ _ h => h) (Or.inl ⟨by rfl, ?_⟩) hHeld ?_;rotate_left
   ·intro wq hSw;go_simp
    (try with_reducible rfl)
   (try simp only [Act.put, pk1, pk2, pk3, pk4, pk5, pk6])
   refine wpAnyH_take (i := 2) (oi := _) (v := ?_) rfl (by kernel_rfl) (by kernel_rfl) (by kernel_rfl) (fun _ _ _ h => h) (Or.inl ⟨by rfl, ?_⟩) hHeld ?_;rotate_left
   ·intro wq hSw;go_simp
    (try with_reducible rfl)
   (try simp only [Act.put, pk1, pk2, pk3, pk4, pk5, pk6])
   refine wpAnyH_take (i := 3) (oi := _) (v := _) rfl (by kernel_rfl) (by kernel_rfl) (by kernel_rfl) (fun _ _ _ h => h) (AI rfl Tryz.underlying45 HL2.out (fun W h => h) (by rfl) _ rfl rfl) hHeld ?_
   (try simp only [Act.put, pk1, pk2, pk3, pk4, pk5, pk6])
   refine wpAnyH_ready (rs := [4]) (by kernel_rfl) (by simp) ?_;refine AllReadyH.cons (o := _) rfl (fun K hK => ?_) AllReadyH.nil;go_simp
   go_at_call 53
   have HQ := Gt ok ok (l.take k) (some ⟨b, off, none⟩) cap x cs.toArray w3.drew (by rw [HLK.out]; omega) (((HR.out.bel HB.out).bel HBR.out).bel (Below.refl _ _).drew |>.take k) ((HCV.out.bel HBR.out).bel (Below.refl _ _).drew) HGX.out;rw [HLK.out] at HQ;refine HQ.mono ?_;rintro e w4 ⟨rfl, hb4⟩;have hn4 : Below w3.heap.size w3 w4 := (Below.refl w3.heap.size w3).drew.trans hb4;have HB4 := hid (HB.out.trans ((HBR.out.trans (hn4.mono HBR.out.size)).mono hws));refine hK.out _ _ (Aw HK3.out (hn4.block _ (AL HK3.out (by omega)))) (fun hHeld2 => ?_);clear hK K hb4 hn4 hHeld;have hHeld := hHeld2;clear hHeld2
   (try simp only [Act.put, pk1, pk2, pk3, pk4, pk5, pk6])
   refine wpAnyH_take (i := 5) (oi := _) (v := ?_) rfl (by kernel_rfl) (by kernel_rfl) (by kernel_rfl) (fun _ _ _ h => h) (Or.inl ⟨by rfl, ?_⟩) hHeld ?_;rotate_left
   ·intro wq hSw;go_simp
    (try with_reducible rfl)
   (try simp only [Act.put, pk1, pk2, pk3, pk4, pk5, pk6])
   refine wpAnyH_done (by kernel_rfl) ?_ _;refine NoPanic.normal ?_;have HDZ : Hid (Z = if Pr.ruleE (l.take k) x ≠ 0 then Pr.ruleE (l.take k) x else Pr.rulesE (l.take (k + 1)) (l.drop (k + 1))) := hid (by rw [← HE.out, HST.out]);generalize Pr.ruleE (l.take k) x = F at *;by_cases hF : F = 0
   ·subst hF;have HZ2 : Hid (Pr.rulesE (l.take (k + 1)) (l.drop (k + 1)) = Z) := hid (by rw [HDZ.out, if_neg (by simp)]);go_wp2_with fail
    go_roundw
    case rel => exact ⟨k + 1, hlt, by go_num, HZ2.out, HB4.out⟩
    case measure => simp [RowKit.intOf]; omega
   ·have HZ2 : Hid (Z = F) := hid (by rw [HDZ.out, if_pos hF]);have hFb : (F == 0) = false := beq_eq_false_iff_ne.2 hF;have hFn : (F != 0) = true := by rw [bne, hFb]; rfl
    clear hF;go_wp2_with fail;go_ret;exact ⟨congrArg (fun z => Ending.returned (.int .i64 z)) HZ2.out.symm, HB4.out⟩
  ·obtain rfl : k = l.length := by omega
   have HZ2 : Hid (Z = 0) := hid (by rw [← HE.out, List.drop_length]; rfl);go_wp2_with fail;go_ret;exact ⟨congrArg (fun z => Ending.returned (.int .i64 z)) HZ2.out.symm, HB.out⟩
end Go.Proofs.YtchkiegehejfmaaGreatDoor
namespace Pr
def TkS (r : List Tk) : Prop := ∀ t ∈ r, t.text.length ≤ 1000000
def Nd (read : List Tk → Option (Cn × List Tk)) : Prop := ∀ r c q, TkS r → read r = some (c, q) → small c ∧ nodes c + q.length ≤ r.length
theorem TkS.of {p q : List Tk} (h : TkS (p ++ q)) : TkS q := fun t ht => h t (List.mem_append.2 (.inr ht))
theorem TkS.tail {r : List Tk} (h : TkS r) : TkS r.tail := fun t ht => h t (List.mem_of_mem_tail ht)
theorem C3 : ∀ (a b : List Cn), nodesL (a ++ b) = nodesL a + nodesL b
 | [], b => by rw [nodesL]; simp
 | c :: a, b => by rw [List.cons_append, nodesL, nodesL, C3 a b]; omega
theorem C5 : ∀ (a b : List Cn), smallL a → smallL b → smallL (a ++ b)
 | [], b, _, h => h
 | c :: a, b, h1, h2 => by
  rw [List.cons_append];unfold smallL at h1 ⊢;exact ⟨h1.1, C5 a b h1.2 h2⟩
theorem CZ {c : Cn} (h : small c) : smallL [c] := by unfold smallL; exact ⟨h, by unfold smallL; trivial⟩
theorem ET {read : List Tk → Option (Cn × List Tk)} (hs : Shrinks read) (hn : Nd read) (w : Str) : ∀ (n : Nat) (acc : List Cn) (r : List Tk) (l : List Cn) (q : List Tk), TkS r → smallL acc → joinL read w n acc r = some (l, q) → smallL l ∧ nodesL l + l.length + q.length ≤ nodesL acc + acc.length + r.length + 1
 | 0, _, _, _, _, _, _, h => by cases h
 | n + 1, acc, r, l, q, hr, ha, h => by
  rw [joinL] at h
  cases hc : read r with
  | none => rw [hc] at h; cases h
  | some cz =>
   obtain ⟨c, z⟩ := cz;rw [hc] at h;obtain ⟨h1, h2⟩ := hn r c z hr hc;obtain ⟨p, e, -⟩ := hs r c z hc;have hz : TkS z := TkS.of (p := p) (e ▸ hr);have ha2 := C5 acc [c] ha (CZ h1);have hn2 : nodesL (acc ++ [c]) = nodesL acc + nodes c := by rw [C3, nodesL, nodesL]; omega
   simp only at h;split at h
   ·rename_i hh;obtain ⟨h3, h4⟩ := ET hs hn w n _ _ l q hz.tail ha2 h;have hl : z.length = z.tail.length + 1 := by
     have := congrArg List.length (DP hh);rwa [List.length_cons] at this
    rw [List.length_append, hn2] at h4;simp only [List.length_cons, List.length_nil] at h4;exact ⟨h3, by omega⟩
   ·injection h with h;injection h with h3 h4;subst h3 h4;rw [List.length_append, hn2];simp only [List.length_cons, List.length_nil];exact ⟨ha2, by omega⟩
theorem Cu {op : Int} {read : List Tk → Option (Cn × List Tk)} (hs : Shrinks read) (hn : Nd read) (w : Str) : Nd (joinC op read w) := fun r c q hr h => by
 unfold joinC at h
 cases hj : joinL read w (r.length + 1) [] r with
 | none => rw [hj] at h; cases h
 | some lq =>
  obtain ⟨l, z⟩ := lq;rw [hj] at h;injection h with h;injection h with h1 h2;subst h1 h2;obtain ⟨h3, h4⟩ := ET hs hn w _ _ _ _ _ hr (by unfold smallL; trivial) hj;rw [nodesL] at h4;simp only [List.length_nil] at h4
  match l, h3, h4 with
  | [], _, h4 =>
   refine ⟨by unfold wrapC small; exact ⟨by simp, by unfold smallL; trivial⟩, ?_⟩;obtain ⟨p, e, hp⟩ := Dq hs w _ _ _ _ _ hj;have := List.length_pos_iff.2 hp;show nodes (.mk op [] 0 []) + z.length ≤ r.length;rw [nodes, nodesL, e, List.length_append];omega
  | [c], h3, h4 =>
   unfold smallL at h3;refine ⟨h3.1, ?_⟩;rw [nodesL, nodesL] at h4;simp only [List.length_cons, List.length_nil] at h4;show nodes c + z.length ≤ r.length;omega
  | a :: b :: l, h3, h4 =>
   refine ⟨by show small (.mk op [] 0 (a :: b :: l)); unfold small; exact ⟨by simp, h3⟩, ?_⟩;show nodes (.mk op [] 0 (a :: b :: l)) + z.length ≤ r.length;rw [nodes];simp only [List.length_cons] at h4;omega
theorem Bq (o : Int) (t : Str) (n : Int) : nodes (.mk o t n []) = 1 := by rw [nodes, nodesL]
theorem Br {o : Int} {t : Str} {n : Int} (h : t.length ≤ 1000000) : small (.mk o t n []) := by unfold small; exact ⟨h, by unfold smallL; trivial⟩
theorem FZ (o : Int) : Nd (fieldP o) := fun r c q hr h => by
 have key : ∀ f t z, takeF f r = some (t, z) → t.length ≤ 1000000 ∧ z.length + 1 = r.length := fun f t z ht => by
  have e := takeF_of ht;exact ⟨hr ⟨f, t⟩ (by rw [e]; exact List.mem_cons_self ..), by rw [e, List.length_cons]⟩
 by_cases ho : o = 6 ∨ o = 7 ∨ o = 8
 ·rw [fieldP_text ho] at h
  cases ht : takeF 2 r with
  | none => rw [ht] at h; cases h
  | some tq =>
   obtain ⟨t, z⟩ := tq;obtain ⟨k1, k2⟩ := key _ _ _ ht;rw [ht] at h;injection h with h;injection h with h1 h2;subst h1 h2;exact ⟨Br k1, by rw [Bq]; omega⟩
 ·rw [fieldP_word ho] at h
  cases ht : takeF 1 r with
  | none => rw [ht] at h; cases h
  | some tq =>
   obtain ⟨t, z⟩ := tq;obtain ⟨k1, k2⟩ := key _ _ _ ht;rw [ht] at h;simp only [fieldT] at h;split at h
   ·injection h with h;injection h with h1 h2;subst h1 h2;exact ⟨Br k1, by rw [Bq]; omega⟩
   ·split at h
    ·cases hi : idxOf t kindL with
     | none => rw [hi] at h; cases h
     | some k =>
      rw [hi] at h;injection h with h;injection h with h1 h2;subst h1 h2;exact ⟨Br (by simp), by rw [Bq]; omega⟩
    ·cases hi : numP t with
     | none => rw [hi] at h; cases h
     | some k =>
      rw [hi] at h;injection h with h;injection h with h1 h2;subst h1 h2;exact ⟨Br (by simp), by rw [Bq]; omega⟩
theorem Ee : ∀ (n o : Nat), Nd (oneP n o)
 | 0, _ => fun r c q _ h => by cases h
 | n + 1, o => fun r c q hr h => by
  rw [Ct] at h;have hlt : ∀ f, f ≠ 0 → (hdT r).form = f → r.length = r.tail.length + 1 := fun f hf h2 => by
   cases r with
   | nil => exact absurd h2 (fun e => hf e.symm)
   | cons t r => simp
  split at h
  ·rename_i g3;have hl := hlt 3 (by decide) g3;split at h
   ·cases h
   ·cases hc : condP n (o + 1) r.tail with
    | none => rw [hc] at h; cases h
    | some cz =>
     obtain ⟨c', z⟩ := cz;obtain ⟨k1, k2⟩ := Cu (bothP_of n (o + 1)) (Cu (oneP_of n (o + 1)) (Ee n (o + 1)) andW) orW r.tail c' z hr.tail hc;rw [hc] at h;simp only at h
     cases ht : takeF 4 z with
     | none => rw [ht] at h; cases h
     | some ty =>
      obtain ⟨t, y⟩ := ty;have e := congrArg List.length (takeF_of ht);rw [List.length_cons] at e;rw [ht] at h;injection h with h;injection h with h1 h2;subst h1 h2;exact ⟨k1, by omega⟩
  ·split at h
   ·cases h
   ·rename_i g3 g1;have hl := hlt 1 (by decide) (Classical.not_not.1 g1);split at h
    ·split at h
     ·cases h
     ·cases hc : oneP n (o + 1) r.tail with
      | none => rw [hc] at h; cases h
      | some cz =>
       obtain ⟨c', z⟩ := cz;obtain ⟨k1, k2⟩ := Ee n (o + 1) r.tail c' z hr.tail hc;rw [hc] at h;injection h with h;injection h with h1 h2;subst h1 h2;refine ⟨by unfold small; exact ⟨by simp, CZ k1⟩, ?_⟩;rw [nodes, nodesL, nodesL];omega
    ·cases hf : findOp (hdT r).text 17 1 with
     | none => rw [hf] at h; cases h
     | some pb =>
      obtain ⟨p, b⟩ := pb;rw [hf] at h
      cases b with
      | true =>
       injection h with h;injection h with h1 h2;subst h1 h2;exact ⟨Br (by simp), by rw [Bq]; omega⟩
      | false =>
       obtain ⟨k1, k2⟩ := FZ p r.tail c q hr.tail h;exact ⟨k1, by omega⟩
theorem G9 (n o : Nat) : Nd (condP n o) := Cu (bothP_of n o) (Cu (oneP_of n o) (Ee n o) andW) orW
theorem CJ : ∀ (n : Nat) (acc : List Str) (r : List Tk) (l : List Str), TkS r → (∀ a ∈ acc, a.length ≤ 1000000) → moreP n acc r = some l → (∀ a ∈ l, a.length ≤ 1000000) ∧ l.length ≤ acc.length + r.length
 | 0, _, _, _, _, _, h => by cases h
 | n + 1, acc, [], l, _, ha, h => by injection h with h; subst h; exact ⟨ha, by simp⟩
 | n + 1, acc, t :: r, l, hr, ha, h => by
  rw [moreP] at h;split at h
  ·cases ht : takeF 1 r with
   | none => rw [ht] at h; cases h
   | some aq =>
    obtain ⟨a, q⟩ := aq;have e := takeF_of ht;rw [ht] at h;have hr2 : TkS r := hr.tail
    obtain ⟨h1, h2⟩ := CJ n (acc ++ [a]) q l (by rw [e] at hr2; exact hr2.tail) (fun b hb => by
     rcases List.mem_append.1 hb with hb | hb
     ·exact ha b hb
     ·rw [List.mem_singleton.1 hb]; exact hr2 ⟨1, a⟩ (by rw [e]; exact List.mem_cons_self ..)) h
    refine ⟨h1, ?_⟩;rw [List.length_append] at h2;have := congrArg List.length e;rw [List.length_cons] at this;simp only [List.length_cons, List.length_nil] at h2 ⊢;omega
  ·cases h
structure RlS (x : Rl) (n : Nat) : Prop where
 name : x.name.length ≤ 1000000
 small : small x.wh
 nodes : nodes x.wh ≤ n
 acts : ∀ a ∈ x.acts, a.length ≤ 1000000
 few : x.acts.length ≤ n
theorem DU {f : Int} {r q : List Tk} {t : Str} (h : takeF f r = some (t, q)) : (⟨f, t⟩ : Tk) ∈ r := by rw [takeF_of h]; exact List.mem_cons_self ..
theorem Ey {L : List Tk} {x : Rl} (hL : TkS L) (h : ruleP L = some x) : RlS x L.length := by
 rw [ruleP_eq] at h;split at h
 ·cases h1 : takeF 1 L.tail with
  | none => rw [h1] at h; cases h
  | some tq =>
   obtain ⟨nm, r2⟩ := tq;rw [h1] at h;have e1 := takeF_of h1;have hr2 : TkS r2 := by have := hL.tail; rw [e1] at this; exact this.tail
   have hl2 : r2.length + 1 ≤ L.length := by have := congrArg List.length e1; rw [List.length_tail, List.length_cons] at this; omega
   simp only [rA, rB] at h;split at h
   ·cases h2 : condP (L.length + 1) 0 r2.tail with
    | none => rw [h2] at h; cases h
    | some cq =>
     obtain ⟨c, r4⟩ := cq;rw [h2] at h;obtain ⟨k1, k2⟩ := G9 _ _ r2.tail c r4 hr2.tail h2;obtain ⟨p, e, -⟩ := condP_of _ _ _ _ _ h2;have hr4 : TkS r4 := TkS.of (p := p) (e ▸ hr2.tail);have hl4 : r2.tail.length ≤ r2.length := by rw [List.length_tail]; omega
     simp only [rC] at h;split at h
     ·cases h3 : takeF 1 r4.tail with
      | none => rw [h3] at h; cases h
      | some aq =>
       obtain ⟨a, r6⟩ := aq;rw [h3] at h;simp only [rD2] at h;have e3 := takeF_of h3;have hr6 : TkS r6 := by have := hr4.tail; rw [e3] at this; exact this.tail
       have hl6 : r6.length + 1 ≤ r4.length := by have := congrArg List.length e3; rw [List.length_tail, List.length_cons] at this; omega
       cases h4 : moreP (L.length + 1) [a] r6 with
       | none => rw [h4] at h; cases h
       | some l =>
        rw [h4] at h;injection h with h;subst h;obtain ⟨m1, m2⟩ := CJ _ _ _ _ hr6 (fun b hb => by rw [List.mem_singleton.1 hb]; exact hr4.tail _ (DU h3)) h4;refine ⟨hL.tail _ (DU h1), k1, ?_, m1, ?_⟩
        ·show Pr.nodes c ≤ _; omega
        ·show l.length ≤ _; simp only [List.length_cons, List.length_nil] at m2; omega
     ·cases h
   ·cases h
 ·cases h
theorem lineP_small {s : Str} {x : Rl} (hs : s.length ≤ 1000000) (h : lineP s = some x) : RlS x s.length := by
 unfold lineP at h
 cases ht : toks (s.length + 1) [] s with
 | none => rw [ht] at h; cases h
 | some L =>
  rw [ht] at h;obtain ⟨h1, h2⟩ := tkz_ok (show tkz s = some L from ht) hs;have h3 := Ey (L := L) (fun t ht => (h1 t ht).1) h;exact ⟨h3.name, h3.small, Nat.le_trans h3.nodes h2, h3.acts, Nat.le_trans h3.few h2⟩
theorem RlS.good {x : Rl} {n : Nat} (h : RlS x n) (hn : n ≤ 1000000) : x.Good := ⟨h.name, h.small, Nat.le_trans h.nodes hn, h.acts⟩
end Pr
