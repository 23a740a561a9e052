/- The texts Eq, Ja, Es of this proof, one behind the other. -/
import Derived.WalkSpells
import Derived.Test.YtacjhbbieeliaaaGreatDoorMan
import Derived.Test.YtacjhbbieeliaaaGreatDoorMao
import Derived.Test.YtacjhbbieeliaaaGreatDoorMai
set_option linter.unusedSimpArgs false
set_option maxHeartbeats 16000000
set_option maxRecDepth 100000
/- The text Eq. -/
namespace Rn
theorem pieces_le : ∀ (n : Nat) (s : Str) (p : Str), p ∈ pieces n s → p.length ≤ s.length
 | 0, s, p, h => by rw [List.mem_singleton.1 h]; exact Nat.le_refl _
 | n + 1, s, p, h => by
  unfold pieces at h
  cases hc : cutB 32 s with
  | none => rw [hc] at h; rw [List.mem_singleton.1 h]; exact Nat.le_refl _
  | some q =>
   obtain ⟨a, b⟩ := q
   rw [hc] at h
   have hl := congrArg List.length (cutB_some hc).1
   rw [List.length_append, List.length_cons] at hl
   rcases List.mem_cons.1 h with rfl | h
   ·omega
   ·have := pieces_le n b p h; omega
end Rn
namespace Go.Proofs.YtacjhbbieeliaaaGreatDoor
open Go.RowKit Go.Lib
set_option linter.unusedVariables false
set_option linter.unusedSimpArgs false
theorem results_row_tmp2 {P : Program} {fn : Func} {p u v : Tmp} {ty : TypeId} (h : fn.results = #[.cell p ty, .tmp u, .tmp v]) (tmps : Array Value) (w : World) (g : Nat) (t : TypeId) (cs : Array Value) (d : TypeDesc)
  (hp : tmps.getD p undef = .pointer (some ⟨g, 0, none⟩)) (hg : Blk w g t cs)
  (hu : P.underlying ty = some d) (hd : (match d with | .struct _ | .array _ _ => true | _ => false) = true) (hi : (P.info? ty).map (·.size) = some cs.size) :
  (results fn tmps).run P w = .ok (.tuple #[.agg cs, tmps.getD u undef, tmps.getD v undef]) w := by
 have hl := run_loadVar_row w g t ty cs (0, 0) d hg hu hd hi
 have e : (results fn tmps).run P w = ((asAddr (tmps.getD p undef)).run P w).andThen fun a w₁ => ((loadVar ty a).run P w₁).andThen fun x w₂ => .ok (.tuple #[x, tmps.getD u undef, tmps.getD v undef]) w₂ := by
  simp only [results, h]
  simp [Sem.run_bind, Result.andThen]
 rw [e]
 simp only [hp, asAddr, Sem.run_pure, Result.andThen_ok]
 rw [hl]
 rfl
def LineA (s : List UInt8) (e : Ending) : Prop := (∃ x, Rn.row s = some x ∧ e = .returned (.tuple #[.agg #[.string (bstr x.rule), .int .i64 x.id, .int .i64 x.err, .slice none 0 0], .int .i64 (x.lv : Int), .bool true])) ∨
 (Rn.row s = none ∧ ∃ V n, e = .returned (.tuple #[.agg V, .int .i64 n, .bool false]) ∧ V.size = 4 ∧ V.all (·.oneCell') = true)
theorem has_two {s : List UInt8} : (Lib.hasPrefix s [32, 32] = true) ↔ [32, 32] <+: s := by unfold Lib.hasPrefix; rw [List.isPrefixOf_iff_prefix]
theorem prefix_two {s : List UInt8} (h : [32, 32] <+: s) : 2 ≤ s.length := by obtain ⟨t, rfl⟩ := h; simp
theorem splitB_parts (T : ByteArray) : (Lib.splitB ⟨#[32]⟩ 0 (Lib.countB T ⟨#[32]⟩) T).map (·.data.toList) = Rn.parts T.data.toList ∧ (Lib.splitB ⟨#[32]⟩ 0 (Lib.countB T ⟨#[32]⟩) T).length = Lib.countB T ⟨#[32]⟩ + 1 := by
 have hc : Lib.countB T ⟨#[32]⟩ = Rn.blanks T.data.toList := Lib.count_one 32 T.data.toList
 refine ⟨?_, Lib.splitB_all ⟨#[32]⟩ (by decide) 0 _ T rfl⟩
 rw [Lib.splitB_data]
 show Lib.splitK [32] 0 _ T.data.toList = _
 rw [hc, Rn.split_pieces]
 rfl
theorem three_of {α : Type} {B : List α} (h : B.length = 3) : ∃ a b c, B = [a, b, c] := by
 match B, h with
 | [a, b, c], _ => exact ⟨a, b, c, rfl⟩
theorem line_any (S : ByteArray) (m : Int) (w : World) (hs : S.size ≤ 1000000) (hm : w.cell? ⟨0, 0, none⟩ = some (.int .i64 m)) : Calls Tryz.prog 69 #[.string S] w fun e w' => LineA S.data.toList e ∧ Below w.heap.size w w' := by
 have HBK0 := hid (Blk.new w 42 zRn)
 have HB0 := hid ((Below.refl w.heap.size w).alloc (Nat.le_refl _) (.cells zRn 42))
 have hm1 : (w.alloc (.cells zRn 42)).cell? ⟨0, 0, none⟩ = some (.int .i64 m) := (Below.cell HB0.out (block_lt hm)).trans hm
 have HRB := hid (Rn.row_body S.data.toList)
 generalize hw1 : w.alloc (.cells zRn 42) = w1 at *
 go_enter Tryz.func69, Tryz.ntmps69
 go_wp2_with fail
 go_loop [0, 5] (fun s ix => ∃ (k : Nat) (T : ByteArray), T.size + 2 * k = S.size ∧ s = .string T ∧ ix = .int .i64 (k : Int) ∧ Rn.strip S.data.toList = (k + (Rn.strip T.data.toList).1, (Rn.strip T.data.toList).2)) (fun s _ => match s with | .string T => T.size | _ => 0)
 case atStart => exact ⟨0, S, by omega, rfl, rfl, by rw [Nat.zero_add]⟩
 case round =>
  obtain ⟨k, T, hsz, rfl, rfl, hst⟩ := hrel
  have HST := hid hst
  have HP := hid (Tryz.strings_HasPrefix T ⟨#[32, 32]⟩ w1)
  have hTl := str_size T
  clear hst
  by_cases hp : [32, 32] <+: T.data.toList
  ·have h2 := prefix_two hp
   have HQ : Hid (Lib.hasPrefix T.data.toList (⟨#[32, 32]⟩ : ByteArray).data.toList = true) := hid (has_two.2 hp)
   have HS2 := hid (Rn.strip_yes hp)
   have h2' : 2 ≤ T.size := by omega
   have hsz6 : T.size ≤ 1000000 := by omega
   have HX := hid (Lib.extract_to_end T 2)
   clear hp h2 hTl
   go_wp2_with fail
   refine HP.out.mono ?_
   rintro e w2 ⟨rfl, rfl⟩
   rw [HQ.out]
   go_wp2_with fail
   go_round
   case rel => exact ⟨k + 1, _, by simp; omega, rfl, by go_num, by rw [HST.out, HS2.out, HX.out]; simp; omega⟩
   case measure => simp; omega
  ·have HQ : Hid (Lib.hasPrefix T.data.toList (⟨#[32, 32]⟩ : ByteArray).data.toList = false) := hid (by rw [Bool.eq_false_iff]; exact fun h => hp (has_two.1 h))
   have HS2 := hid (Rn.strip_no hp)
   have HROW : Hid (Rn.row S.data.toList = Rn.body k T.data.toList) := hid (by rw [HRB.out, HST.out, HS2.out]; rfl)
   clear hp hTl
   obtain ⟨hB1, hB2⟩ := splitB_parts T
   have HSP := hid (Tryz.strings_Split T ⟨#[32]⟩ m w1 (by omega) hm1 (by decide))
   generalize Lib.countB T ⟨#[32]⟩ = cn at *
   generalize Lib.splitB ⟨#[32]⟩ 0 cn T = B at *
   have HB1 := hid hB1
   have HB2 := hid hB2
   clear hB1 hB2
   have HBK1 := hid (HBK0.out.alloc (.cells (B.map Value.string).toArray 9))
   have HBS := hid (Blk.new w1 9 (B.map Value.string).toArray)
   have HBW := hid (HB0.out.trans ((Below.refl w.heap.size w1).alloc HB0.out.size (.cells (B.map Value.string).toArray 9)))
   go_wp2_with fail
   refine HP.out.mono ?_
   rintro e w2 ⟨rfl, rfl⟩
   rw [HQ.out]
   go_wp2_with fail
   refine HSP.out.mono ?_
   rintro e w3 ⟨rfl, hw3⟩
   have HW3 := hid hw3
   have hk3 : Blk w3 w.heap.size 42 zRn := by rw [hw3]; exact HBK1.out
   have HBL3 : Hid (Below w.heap.size w w3) := hid (by rw [hw3]; exact HBW.out)
   have HBS3 : Hid (Blk w3 w2.heap.size 9 (B.map Value.string).toArray) := hid (by rw [hw3]; exact HBS.out)
   have HK3 := hid hk3
   clear hw3 hk3 HBW HBS HBK1 HSP
   by_cases h3 : B.length = 3
   ·obtain ⟨a, b, c, rfl⟩ := three_of h3
    have hcn : cn = 2 := by have := HB2.out; simp at this; omega
    subst hcn
    have hc0 : w3.cell? ⟨w2.heap.size, 0, none⟩ = some (.string a) := HBS3.out.cell 0
    have hc1 : w3.cell? ⟨w2.heap.size, 1, none⟩ = some (.string b) := HBS3.out.cell 1
    have hc2 : w3.cell? ⟨w2.heap.size, 2, none⟩ = some (.string c) := HBS3.out.cell 2
    have hparts : Rn.parts T.data.toList = [a.data.toList, b.data.toList, c.data.toList] := HB1.out.symm
    have hpl := Rn.pieces_le (Rn.blanks T.data.toList) T.data.toList
    have hTl := str_size T
    have hal := hpl a.data.toList (by show _ ∈ Rn.parts T.data.toList; rw [hparts]; simp)
    have hbl := hpl b.data.toList (by show _ ∈ Rn.parts T.data.toList; rw [hparts]; simp)
    have ha6 : a.size ≤ 1000000 := by rw [str_size]; omega
    have hb6 : b.size ≤ 9223372036854775807 := by rw [str_size]; omega
    have HBO : Hid (Rn.body k T.data.toList = if Rn.ruled a.data.toList then (match Sm.un b.data.toList, Rn.code c.data.toList with
     | some i, some e => some ⟨k, a.data.toList, (i : Int), e⟩
     | _, _ => none) else none) := hid (by unfold Rn.body; rw [hparts]; rfl)
    have HA : Hid (bstr a.data.toList = a) := hid (bstr_of a)
    clear hparts hpl hTl hal hbl
    go_wp2_with fail
    refine (ruled_any a _ ha6).mono ?_
    rintro e w4 ⟨rfl, rfl⟩
    cases hr : Rn.ruled a.data.toList with
    | false =>
     have HR : Hid (Rn.row S.data.toList = none) := hid (by rw [HROW.out, HBO.out, hr]; rfl)
     clear hr
     go_wp2_with ((with_reducible refine wpList_store_row' rfl 42 _ _ rfl w.heap.size zRn ?_ ?_ 42 _ HK3.out ?_ ?_ ?_ ?_); rfl; rfl; kernel_rfl; rfl; (simp [Value.oneCell']); intro w9 hk9 hs9 hbl9)
     exact bodyPost_ret (results_row_tmp2 rfl _ _ w.heap.size 42 zRn _ rfl hk9 Tryz.underlying42 rfl (by kernel_rfl)) rfl ⟨.inr ⟨HR.out, zRn, 0, rfl, rfl, by simp [Value.oneCell']⟩, HBL3.out.trans (hbl9 _ (Nat.le_refl _))⟩
    | true =>
     rw [hr] at HBO
     clear hr
     have HU := hid (unhex_any b w3 hb6)
     have HCO := hid (fun W => code_any c W)
     have hzz : w.heap.size ≤ w3.heap.size := HBL3.out.size
     generalize hun : Sm.unN b.data.toList = un at *
     generalize hub : Sm.unB b.data.toList = ub at *
     generalize hcg : (Rn.code c.data.toList).getD 0 = cg at *
     generalize hci : (Rn.code c.data.toList).isSome = ci at *
     have HUN := hid hun
     have HUB := hid hub
     have HCG := hid hcg
     have HCI := hid hci
     clear hun hub hcg hci
     go_wp2_with fail
     refine HU.out.mono ?_
     rintro e w4 ⟨rfl, hb4⟩
     have HB4 := hid hb4
     have hc20 := (hb4.cell (p := ⟨w2.heap.size, 2, none⟩) (block_lt hc2)).trans hc2
     have hc00 := (hb4.cell (p := ⟨w2.heap.size, 0, none⟩) (block_lt hc0)).trans hc0
     clear hb4
     go_wp2_with fail
     refine (HCO.out _).mono ?_
     rintro e w5 ⟨rfl, hb5⟩
     have HB5 := hid (HB4.out.trans (hb5.mono HB4.out.size))
     have hc000 := (HB5.out.cell (p := ⟨w2.heap.size, 0, none⟩) (block_lt hc0)).trans hc0
     have HK5 := hid (HK3.out.below HB5.out HK3.out.lt)
     have HBL5 := hid (HBL3.out.trans (HB5.out.mono hzz))
     clear hb5
     have HIN : Hid (ub = true → ci = true → ∃ x : Rn.Rw, Rn.row S.data.toList = some x ∧ x.lv = k ∧ bstr x.rule = a ∧ x.id = un ∧ x.err = cg) := hid (by
      intro h1 h2
      have hub := HUB.out
      have hci := HCI.out
      rw [h1] at hub
      rw [h2] at hci
      unfold Sm.unB at hub
      obtain ⟨i, hi⟩ := Option.isSome_iff_exists.1 hub
      obtain ⟨e, he⟩ := Option.isSome_iff_exists.1 hci
      refine ⟨⟨k, a.data.toList, (i : Int), e⟩, ?_, rfl, HA.out, ?_, ?_⟩
      ·rw [HROW.out, HBO.out, if_pos trivial, hi, he]
      ·rw [← HUN.out]; exact (Sm.unN_some hi).symm
      ·rw [← HCG.out, he]; rfl)
     have HNO : Hid ((ub = false ∨ ci = false) → Rn.row S.data.toList = none) := hid (by
      intro h
      rw [HROW.out, HBO.out, if_pos trivial]
      cases hi : Sm.un b.data.toList with
      | none => rfl
      | some i =>
       cases he : Rn.code c.data.toList with
       | none => rfl
       | some e =>
        exfalso
        have hub := HUB.out
        have hci := HCI.out
        unfold Sm.unB at hub
        rw [hi] at hub
        rw [he] at hci
        rcases h with h | h
        ·rw [h] at hub; cases hub
        ·rw [h] at hci; cases hci)
     clear HBO HUN HUB HCG HCI HROW
     cases ub with
     | false =>
      go_wp2_with ((with_reducible refine wpList_store_row' rfl 42 _ _ rfl w.heap.size #[.string a, .int .i64 un, .int .i64 cg, .slice none 0 0] ?_ ?_ 42 _ HK5.out ?_ ?_ ?_ ?_); rfl; rfl; kernel_rfl; rfl; (simp [Value.oneCell']); intro w9 hk9 hs9 hbl9)
      exact bodyPost_ret (results_row_tmp2 rfl _ _ w.heap.size 42 #[.string a, .int .i64 un, .int .i64 cg, .slice none 0 0] _ rfl hk9 Tryz.underlying42 rfl (by kernel_rfl)) rfl ⟨.inr ⟨HNO.out (by simp), _, _, rfl, rfl, by simp [Value.oneCell']⟩, HBL5.out.trans (hbl9 _ (Nat.le_refl _))⟩
     | true =>
      cases ci with
      | false =>
       go_wp2_with ((with_reducible refine wpList_store_row' rfl 42 _ _ rfl w.heap.size #[.string a, .int .i64 un, .int .i64 cg, .slice none 0 0] ?_ ?_ 42 _ HK5.out ?_ ?_ ?_ ?_); rfl; rfl; kernel_rfl; rfl; (simp [Value.oneCell']); intro w9 hk9 hs9 hbl9)
       exact bodyPost_ret (results_row_tmp2 rfl _ _ w.heap.size 42 #[.string a, .int .i64 un, .int .i64 cg, .slice none 0 0] _ rfl hk9 Tryz.underlying42 rfl (by kernel_rfl)) rfl ⟨.inr ⟨HNO.out (by simp), _, _, rfl, rfl, by simp [Value.oneCell']⟩, HBL5.out.trans (hbl9 _ (Nat.le_refl _))⟩
      | true =>
       go_wp2_with ((with_reducible refine wpList_store_row' rfl 42 _ _ rfl w.heap.size #[.string a, .int .i64 un, .int .i64 cg, .slice none 0 0] ?_ ?_ 42 _ HK5.out ?_ ?_ ?_ ?_); rfl; rfl; kernel_rfl; rfl; (simp [Value.oneCell']); intro w9 hk9 hs9 hbl9)
       obtain ⟨x, hx1, hx2, hx3, hx4, hx5⟩ := HIN.out (by trivial) (by trivial)
       exact bodyPost_ret (results_row_tmp2 rfl _ _ w.heap.size 42 #[.string a, .int .i64 un, .int .i64 cg, .slice none 0 0] _ rfl hk9 Tryz.underlying42 rfl (by kernel_rfl)) rfl ⟨.inl ⟨x, hx1, by rw [hx2, hx3, hx4, hx5]; rfl⟩, HBL5.out.trans (hbl9 _ (Nat.le_refl _))⟩
   ·have HR : Hid (Rn.row S.data.toList = none) := hid (by
     rw [HROW.out]
     unfold Rn.body
     rw [← HB1.out]
     match B, h3 with
     | [], _ => rfl
     | [_], _ => rfl
     | [_, _], _ => rfl
     | [_, _, _], h => exact absurd rfl h
     | _ :: _ :: _ :: _ :: _, _ => rfl)
    have hn3 : (((cn : Nat) : Int) + 1 != 3) = true := by rw [bne_iff_ne]; have := HB2.out; omega
    clear h3
    go_wp2_with ((with_reducible refine wpList_store_row' rfl 42 _ _ rfl w.heap.size zRn ?_ ?_ 42 _ HK3.out ?_ ?_ ?_ ?_); rfl; rfl; kernel_rfl; rfl; (simp [Value.oneCell']); intro w9 hk9 hs9 hbl9)
    exact bodyPost_ret (results_row_tmp2 rfl _ _ w.heap.size 42 zRn _ rfl hk9 Tryz.underlying42 rfl (by kernel_rfl)) rfl ⟨.inr ⟨HR.out, zRn, 0, rfl, rfl, by simp [Value.oneCell']⟩, HBL3.out.trans (hbl9 _ (Nat.le_refl _))⟩
end Go.Proofs.YtacjhbbieeliaaaGreatDoor
/- The text Ja. -/
namespace Rn
theorem cut_none {s : Str} {c : UInt8} (h : cutB c s = none) : Go.Lib.cut s [c] = (s, [], false) := by
 unfold Go.Lib.cut
 rw [index_none h]
 rfl
theorem cut_some {s a r : Str} {c : UInt8} (h : cutB c s = some (a, r)) : Go.Lib.cut s [c] = (a, r, true) := by
 obtain ⟨h1, h2⟩ := index_some h
 unfold Go.Lib.cut
 rw [h1, if_pos (Int.natCast_nonneg _), h2]
 simp
end Rn
namespace Go.Proofs.YtacjhbbieeliaaaGreatDoor
open Go.RowKit Go.Lib
set_option linter.unusedVariables false
set_option linter.unusedSimpArgs false
def ParseA (base : Nat) (r : Rn.Res) (e : Ending) (w' : World) : Prop := (∃ (n : Nat) (k : Int), r = .bad n k ∧ e = .returned (.tuple #[.agg zRn, .int .i64 (n : Int), .int .i64 k])) ∨
 (∃ x V, r = .ok x ∧ e = .returned (.tuple #[.agg V, .int .i64 0, .int .i64 0]) ∧ RnV w' (fun b => base ≤ b) V x)
theorem LineA.any {s : List UInt8} {e : Ending} (h : LineA s e) : ∃ V n b, e = .returned (.tuple #[.agg V, .int .i64 n, .bool b]) ∧ V.size = 4 ∧ V.all (·.oneCell') = true := by
 rcases h with ⟨x, -, rfl⟩ | ⟨-, V, n, rfl, h1, h2⟩
 ·exact ⟨_, _, _, rfl, rfl, by simp [Value.oneCell']⟩
 ·exact ⟨V, n, false, rfl, h1, h2⟩
theorem LineA.no {s : List UInt8} {e : Ending} (h : LineA s e) (hr : Rn.row s = none) : ∃ V n, e = .returned (.tuple #[.agg V, .int .i64 n, .bool false]) ∧ V.size = 4 ∧ V.all (·.oneCell') = true := by
 rcases h with ⟨x, h1, -⟩ | ⟨-, V, n, rfl, h1, h2⟩
 ·rw [hr] at h1; cases h1
 ·exact ⟨V, n, rfl, h1, h2⟩
theorem LineA.yes {s : List UInt8} {e : Ending} (h : LineA s e) {x : Rn.Rw} (hr : Rn.row s = some x) : e = .returned (.tuple #[.agg #[.string (bstr x.rule), .int .i64 x.id, .int .i64 x.err, .slice none 0 0], .int .i64 (x.lv : Int), .bool true]) := by
 rcases h with ⟨y, h1, rfl⟩ | ⟨h1, -⟩
 ·rw [hr] at h1; injection h1 with h1; rw [h1]
 ·rw [hr] at h1; cases h1
theorem info_row : (Tryz.prog.info? 109).map (fun i => (i.zero, i.size, i.bytes)) = some (some (.agg #[.string ⟨#[]⟩, .int .i64 0, .int .i64 0, .slice none 0 0, .int .i64 0]), 5, 64) := by kernel_rfl
theorem rowRw : RowU 105 109 5 64 := ⟨Tryz.underlying105, ⟨_, info_row, rfl⟩, by decide, by decide⟩
theorem parse_any (S : ByteArray) (m : Int) (w : World) (hs : S.size ≤ 100000) (hm : w.cell? ⟨0, 0, none⟩ = some (.int .i64 m)) :
  Calls Tryz.prog 26 #[.string S] w fun e w' => ParseA w.heap.size (Rn.parse S.data.toList) e w' ∧ Below w.heap.size w w' := by
 have HBK0 := hid (Blk.new w 42 zRn)
 have HB0 := hid ((Below.refl w.heap.size w).alloc (Nat.le_refl _) (.cells zRn 42))
 have hgt : ¬ 100000 < S.size := by omega
 have hPA : Rn.parse S.data.toList = (match Rn.parseA [] S.data.toList with | .inl n => .bad n 10 | .inr l => .ok (Rn.grow l)) := by
  have := str_size S
  unfold Rn.parse Rn.parseA
  rw [if_neg (by omega)]
  rfl
 have HPA := hid hPA
 clear hPA
 have HM := hid hm
 have hblk : w.heap.size + 1 ≤ (w.alloc (.cells zRn 42)).heap.size := by simp
 clear hm
 generalize hw1 : w.alloc (.cells zRn 42) = w1 at *
 go_enter Tryz.func26, Tryz.ntmps26
 go_wp2_with fail
 go_loopw [0, 5, 6] (fun s lv n wr => ∃ (T : ByteArray) (L : List Rn.Rw), s = .string T ∧ n = .int .i64 ((L.length + 1 : Nat) : Int) ∧ L.length + T.size ≤ S.size ∧ RwS.Own 109 (fun b => w.heap.size + 1 ≤ b) wr (w.heap.size + 1) lv L ∧ Hid (Rn.parseA [] S.data.toList = Rn.parseA L T.data.toList) ∧ Hid (∀ q ∈ L, q.lv ≤ 39) ∧ Blk wr w.heap.size 42 zRn ∧ Below w.heap.size w wr) (fun s _ _ _ => match s with | .string T => T.size | _ => 0)
 case atStart => exact ⟨S, [], rfl, rfl, by simp, Shp.Own.nil, hid rfl, hid (fun q h => by cases h), HBK0.out, HB0.out⟩
 case round =>
  obtain ⟨T, L, rfl, rfl, hlen, hown, HPL, HZ39, hk, hb⟩ := hrel
  have HOW := hid hown
  have HK := hid hk
  have HB := hid hb
  have hsw := hb.size
  have hkw := hk.lt
  have hmr : wr.cell? ⟨0, 0, none⟩ = some (.int .i64 m) := (Below.cell hb (block_lt HM.out)).trans HM.out
  have HMR := hid hmr
  obtain ⟨A, c, rfl, hlc⟩ := hown.len
  have hTs := str_size T
  clear hown hk hb hmr
  by_cases hT : T.data.toList = [] ∧ L ≠ []
  ·obtain ⟨hT1, hL1⟩ := hT
   have hT2 : T.toList.isEmpty = true := by rw [Lib.toList_data, hT1]; rfl
   obtain ⟨x, l, rfl⟩ : ∃ x l, L = x :: l := List.exists_cons_of_ne_nil hL1
   have hn1 : ((l.length : Int) + 1 + 1 == 1) = false := by simp; omega
   obtain ⟨A1, c1, e1, -, hrow⟩ := HOW.out.row (ok' := fun b => w.heap.size + 1 ≤ b) (fun b h => h) (fun k hk => by
    obtain ⟨xs, h1, -⟩ := HOW.out
    exact (h1.lt k hk).1)
   injection e1 with e1 _ e2
   subst e1 e2
   obtain ⟨y, b, off, X, hy, rfl, -, -, -, -⟩ := hrow.at_ (i := 0) (by simp)
   have HG := hid (grow_any (l.length + 1) _ x l b off c (l.length + 1) wr (Nat.lt_succ_self _) (by simp at hlen; omega) hlc rfl hrow)
   have HRES : Hid (Rn.parse S.data.toList = .ok (.mk x.rule x.id x.err (Rn.kidsA x.lv l).1)) := hid (by rw [HPA.out, HPL.out, hT1, Rn.parseA_done hL1]; rfl)
   generalize Rn.Tr.mk x.rule x.id x.err (Rn.kidsA x.lv l).1 = t at *
   clear hrow hy hT1 hL1
   go_wp2_with fail
   refine HG.out.mono ?_
   rintro e w3 ⟨⟨V, A3, n3, c3, rfl, -, -, hV, -⟩, hb3⟩
   have HB3 := hid hb3
   have HV3 := hid hV
   have hs3 := hb3.size
   obtain ⟨B, bc, rfl, -⟩ := hV.open
   have HK3 := hid (HK.out.below hb3 hkw)
   have HK4 := hid ((HK.out.below hb3 hkw).alloc (.cells zRn 42))
   have HN4 := hid (Blk.new w3 42 zRn)
   have HK5 : Hid (Blk ((w3.alloc (.cells zRn 42)).setRow w3.heap.size #[.string (bstr t.rule), .int .i64 t.id, .int .i64 t.err, .slice B t.kids.length bc]) w.heap.size 42 zRn) := hid ((setRow_other _ _ _ _ (by omega)).trans HK4.out)
   have HN5 : Hid (Blk ((w3.alloc (.cells zRn 42)).setRow w3.heap.size #[.string (bstr t.rule), .int .i64 t.id, .int .i64 t.err, .slice B t.kids.length bc]) w3.heap.size 42 #[.string (bstr t.rule), .int .i64 t.id, .int .i64 t.err, .slice B t.kids.length bc]) := hid (setRow_heap _ _ _ _ _ _ HN4.out)
   have HK6 : Hid (Blk (((w3.alloc (.cells zRn 42)).setRow w3.heap.size #[.string (bstr t.rule), .int .i64 t.id, .int .i64 t.err, .slice B t.kids.length bc]).setRow w.heap.size #[.string (bstr t.rule), .int .i64 t.id, .int .i64 t.err, .slice B t.kids.length bc]) w.heap.size 42 #[.string (bstr t.rule), .int .i64 t.id, .int .i64 t.err, .slice B t.kids.length bc]) := hid (setRow_heap _ _ _ _ _ _ HK5.out)
   have HB6 := hid (below_setRow (g := w.heap.size) (below_setRow (g := w3.heap.size) ((HB.out.trans (hb3.mono hsw)).alloc (by omega) (.cells zRn 42)) (by omega) #[.string (bstr t.rule), .int .i64 t.id, .int .i64 t.err, .slice B t.kids.length bc]) (Nat.le_refl _) #[.string (bstr t.rule), .int .i64 t.id, .int .i64 t.err, .slice B t.kids.length bc])
   have HV6 := hid (hV.keep (w' := (((w3.alloc (.cells zRn 42)).setRow w3.heap.size #[.string (bstr t.rule), .int .i64 t.id, .int .i64 t.err, .slice B t.kids.length bc]).setRow w.heap.size #[.string (bstr t.rule), .int .i64 t.id, .int .i64 t.err, .slice B t.kids.length bc])) (ok' := fun b => w.heap.size ≤ b) (fun b hb hl => ⟨by omega, ((setRow_other _ _ _ _ (by omega)).trans (setRow_other _ _ _ _ (by omega))).trans (Below.heap_alloc _ _ _ hl)⟩))
   clear hb3 hV
   go_wp2_with (first
    | ((with_reducible refine store_rowb rfl 42 _ _ rfl w3.heap.size #[.string (bstr t.rule), .int .i64 t.id, .int .i64 t.err, .slice B t.kids.length bc] ?_ ?_ 42 zRn HN4.out size_rn ?_ (by simp [Value.oneCell']) ?_); rfl; rfl; rfl)
    | (refine wpList_load_row rfl 42 _ rfl w3.heap.size rfl 42 #[.string (bstr t.rule), .int .i64 t.id, .int .i64 t.err, .slice B t.kids.length bc] (0, 0) _ HN5.out Tryz.underlying42 rfl size_rn ?_)
    | ((with_reducible refine store_rowb rfl 42 _ _ rfl w.heap.size #[.string (bstr t.rule), .int .i64 t.id, .int .i64 t.err, .slice B t.kids.length bc] ?_ ?_ 42 zRn HK5.out size_rn ?_ (by simp [Value.oneCell']) ?_); rfl; rfl; rfl))
   exact bodyPost_ret (results_row_tmp2 rfl _ _ w.heap.size _ _ _ rfl HK6.out Tryz.underlying42 rfl size_rn) rfl ⟨.inr ⟨_, _, HRES.out, rfl, HV6.out⟩, HB6.out⟩
  ·have HOP := hid (Rn.parseA_open (l := L) (s := T.data.toList) hT)
   have HCUT := hid (Tryz.strings_Cut T ⟨#[10]⟩ m wr (by omega) HMR.out)
   have HCN := hid (fun h => Rn.cut_none (s := T.data.toList) (c := 10) h)
   have HCS := hid (fun a r h => Rn.cut_some (s := T.data.toList) (c := 10) (a := a) (r := r) h)
   have HSZ : Hid (T.size ≤ 100000) := hid (by omega)
   cases L with
   | nil =>
    clear hT
    have hT3 : T.toList.isEmpty = true ∨ T.toList.isEmpty = false := by cases T.toList.isEmpty <;> simp
    rcases hT3 with hT2 | hT2
    all_goals
     go_wp2_with fail
     refine HCUT.out.mono ?_
     rintro e w2 ⟨rfl, n2, rfl⟩
     have HBR2 := hid (below_drewN (Below.refl wr.heap.size wr) n2)
     have HK2 := hid (HK.out.drewN n2)
     have HM2 : Hid ((wr.drewN n2).cell? ⟨0, 0, none⟩ = some (.int .i64 m)) := hid HMR.out
     have hs2 : wr.heap.size ≤ (wr.drewN n2).heap.size := Nat.le_refl _
     have hk2 : w.heap.size < (wr.drewN n2).heap.size := hkw
     generalize wr.drewN n2 = w2 at *
     cases hc : Rn.cutB 10 T.data.toList with
     | none =>
      have HCC := hid (HCN.out hc)
      have HRES : Hid (Rn.parse S.data.toList = .bad 1 10) := hid (by rw [HPA.out, HPL.out, HOP.out, hc]; rfl)
      clear hc
      rw [HCC.out]
      go_wp2_with fail
      refine (line_any _ m w2 (by have := HSZ.out; show T.data.toList.toArray.size ≤ _; simp; rw [str_size] at this; omega) HM2.out).mono ?_
      rintro e w3 ⟨hla, hb3⟩
      obtain ⟨V, nl, bl, rfl, hvs, hvo⟩ := hla.any
      have HSX : Hid ((Tryz.prog.info? 42).map (·.size) = some V.size) := hid (by rw [size_rea, hvs])
      have HSZV : Hid (zRn.size = V.size) := hid (by rw [hvs]; rfl)
      have HOV := hid hvo
      clear hvs hvo
      have HBR3 := hid (HBR2.out.trans (hb3.mono hs2))
      have HK3 := hid (HK2.out.below hb3 hk2)
      have hs3 := hb3.size
      clear hb3
      have HN4 := hid (Blk.new w3 42 zRn)
      have HK5 : Hid (Blk ((w3.alloc (.cells zRn 42)).setRow w3.heap.size V) w.heap.size 42 zRn) := hid ((setRow_other _ _ _ _ (by omega)).trans (HK3.out.alloc (.cells zRn 42)))
      have HN5 : Hid (Blk ((w3.alloc (.cells zRn 42)).setRow w3.heap.size V) w3.heap.size 42 V) := hid (setRow_heap _ _ _ _ _ _ HN4.out)
      have HBR5 := hid (below_setRow (g := w3.heap.size) (HBR3.out.alloc (by omega) (.cells zRn 42)) (by omega) V)
      have hs5 : w.heap.size < ((w3.alloc (.cells zRn 42)).setRow w3.heap.size V).heap.size := HK5.out.lt
      have HB6 := hid (below_setRow (g := w.heap.size) (HB.out.trans (HBR5.out.mono hsw)) (Nat.le_refl _) zRn)
      have HK6 : Hid (Blk (((w3.alloc (.cells zRn 42)).setRow w3.heap.size V).setRow w.heap.size zRn) w.heap.size 42 zRn) := hid (setRow_heap _ _ _ _ _ _ HK5.out)
      go_wp2_with (first
       | ((with_reducible refine store_rowb rfl 42 _ _ rfl w3.heap.size V ?_ ?_ 42 zRn HN4.out HSX.out HSZV.out HOV.out ?_); rfl; rfl)
       | ((with_reducible refine store_rowb rfl 42 _ _ rfl w.heap.size zRn ?_ ?_ 42 zRn HK5.out size_rn ?_ (by simp [Value.oneCell']) ?_); rfl; rfl; rfl))
      exact bodyPost_ret (results_row_tmp2 rfl _ _ w.heap.size _ _ _ rfl HK6.out Tryz.underlying42 rfl size_rn) rfl ⟨.inl ⟨1, 10, HRES.out, rfl⟩, HB6.out⟩
     | some q =>
      obtain ⟨a, r⟩ := q
      have HCC := hid (HCS.out a r hc)
      have hal := congrArg List.length (Rn.cutB_some hc).1
      rw [List.length_append, List.length_cons, ← str_size] at hal
      have HLA : Hid (a.length ≤ 100000) := hid (by have := HSZ.out; omega)
      rw [HCC.out]
      cases hr : Rn.row a with
      | none =>
       have HRES : Hid (Rn.parse S.data.toList = .bad 1 10) := hid (by rw [HPA.out, HPL.out, HOP.out, hc]; simp only [hr]; rfl)
       clear hc
       go_wp2_with fail
       refine (line_any _ m w2 (by have := HSZ.out; show a.toArray.size ≤ _; have h2 := HLA.out; simp; omega) HM2.out).mono ?_
       rintro e w3 ⟨hla, hb3⟩
       obtain ⟨V, nl, rfl, hvs, hvo⟩ := hla.no hr
       have HSX : Hid ((Tryz.prog.info? 42).map (·.size) = some V.size) := hid (by rw [size_rea, hvs])
       have HSZV : Hid (zRn.size = V.size) := hid (by rw [hvs]; rfl)
       have HOV := hid hvo
       clear hvs hvo
       have HBR3 := hid (HBR2.out.trans (hb3.mono hs2))
       have HK3 := hid (HK2.out.below hb3 hk2)
       have hs3 := hb3.size
       clear hb3
       have HN4 := hid (Blk.new w3 42 zRn)
       have HK5 : Hid (Blk ((w3.alloc (.cells zRn 42)).setRow w3.heap.size V) w.heap.size 42 zRn) := hid ((setRow_other _ _ _ _ (by omega)).trans (HK3.out.alloc (.cells zRn 42)))
       have HN5 : Hid (Blk ((w3.alloc (.cells zRn 42)).setRow w3.heap.size V) w3.heap.size 42 V) := hid (setRow_heap _ _ _ _ _ _ HN4.out)
       have HBR5 := hid (below_setRow (g := w3.heap.size) (HBR3.out.alloc (by omega) (.cells zRn 42)) (by omega) V)
       have hs5 : w.heap.size < ((w3.alloc (.cells zRn 42)).setRow w3.heap.size V).heap.size := HK5.out.lt
       have HB6 := hid (below_setRow (g := w.heap.size) (HB.out.trans (HBR5.out.mono hsw)) (Nat.le_refl _) zRn)
       have HK6 : Hid (Blk (((w3.alloc (.cells zRn 42)).setRow w3.heap.size V).setRow w.heap.size zRn) w.heap.size 42 zRn) := hid (setRow_heap _ _ _ _ _ _ HK5.out)
       go_wp2_with (first
        | ((with_reducible refine store_rowb rfl 42 _ _ rfl w3.heap.size V ?_ ?_ 42 zRn HN4.out HSX.out HSZV.out HOV.out ?_); rfl; rfl)
        | ((with_reducible refine store_rowb rfl 42 _ _ rfl w.heap.size zRn ?_ ?_ 42 zRn HK5.out size_rn ?_ (by simp [Value.oneCell']) ?_); rfl; rfl; rfl))
       exact bodyPost_ret (results_row_tmp2 rfl _ _ w.heap.size _ _ _ rfl HK6.out Tryz.underlying42 rfl size_rn) rfl ⟨.inl ⟨1, 10, HRES.out, rfl⟩, HB6.out⟩
      | some y =>
       go_wp2_with fail
       refine (line_any _ m w2 (by have := HSZ.out; show a.toArray.size ≤ _; have h2 := HLA.out; simp; omega) HM2.out).mono ?_
       rintro e w3 ⟨hla, hb3⟩
       obtain rfl := hla.yes hr
       have HSX : Hid ((Tryz.prog.info? 42).map (·.size) = some (#[.string (bstr y.rule), .int .i64 y.id, .int .i64 y.err, .slice none 0 0] : Array Value).size) := hid size_rea
       have HSZV : Hid (zRn.size = (#[.string (bstr y.rule), .int .i64 y.id, .int .i64 y.err, .slice none 0 0] : Array Value).size) := hid rfl
       have HOV : Hid ((#[.string (bstr y.rule), .int .i64 y.id, .int .i64 y.err, .slice none 0 0] : Array Value).all (·.oneCell') = true) := hid (by simp [Value.oneCell'])
       have HBR3 := hid (HBR2.out.trans (hb3.mono hs2))
       have HK3 := hid (HK2.out.below hb3 hk2)
       have hs3 := hb3.size
       clear hb3
       have HN4 := hid (Blk.new w3 42 zRn)
       have HK5 : Hid (Blk ((w3.alloc (.cells zRn 42)).setRow w3.heap.size (#[.string (bstr y.rule), .int .i64 y.id, .int .i64 y.err, .slice none 0 0] : Array Value)) w.heap.size 42 zRn) := hid ((setRow_other _ _ _ _ (by omega)).trans (HK3.out.alloc (.cells zRn 42)))
       have HN5 : Hid (Blk ((w3.alloc (.cells zRn 42)).setRow w3.heap.size (#[.string (bstr y.rule), .int .i64 y.id, .int .i64 y.err, .slice none 0 0] : Array Value)) w3.heap.size 42 (#[.string (bstr y.rule), .int .i64 y.id, .int .i64 y.err, .slice none 0 0] : Array Value)) := hid (setRow_heap _ _ _ _ _ _ HN4.out)
       have HBR5 := hid (below_setRow (g := w3.heap.size) (HBR3.out.alloc (by omega) (.cells zRn 42)) (by omega) (#[.string (bstr y.rule), .int .i64 y.id, .int .i64 y.err, .slice none 0 0] : Array Value))
       have hs5 : w.heap.size < ((w3.alloc (.cells zRn 42)).setRow w3.heap.size (#[.string (bstr y.rule), .int .i64 y.id, .int .i64 y.err, .slice none 0 0] : Array Value)).heap.size := HK5.out.lt
       by_cases hlv : y.lv = 0
       ·have hL0 : ([] : List Rn.Rw).length = 0 := rfl
        have HLN : Hid (([] ++ [y]).length + (⟨r.toArray⟩ : ByteArray).size ≤ S.size) := hid (by rw [List.length_append]; show _ + 1 + r.length ≤ _; omega)
        have HMS : Hid ((⟨r.toArray⟩ : ByteArray).size < T.size) := hid (by show r.length < _; omega)
        clear hL0
        have HP2 : Hid (Rn.parseA [] S.data.toList = Rn.parseA ([] ++ [y]) (⟨r.toArray⟩ : ByteArray).data.toList) := hid (by rw [HPL.out, HOP.out, hc]; simp only [hr]; rw [if_pos (by simp [Rn.okLv, Rn.last, hlv])])
        have HL39 : Hid (∀ q ∈ [] ++ [y], q.lv ≤ 39) := hid (fun q hq => by
         rw [List.nil_append] at hq
         rw [List.mem_singleton.1 hq]; omega)
        have hd1 : decide ((0 : Int) < (y.lv : Int)) = false := decide_eq_false (by omega)
        have hd2 : decide (0 < y.lv) = false := decide_eq_false (by omega)
        clear hlv hc hr
        go_upto_region 9 with (((with_reducible refine store_rowb rfl 42 _ _ rfl w3.heap.size (#[.string (bstr y.rule), .int .i64 y.id, .int .i64 y.err, .slice none 0 0] : Array Value) ?_ ?_ 42 zRn HN4.out HSX.out HSZV.out HOV.out ?_); rfl; rfl))
        have HOW5 := hid (HOW.out.bel HBR5.out)
        have HB5 := hid (HB.out.trans (HBR5.out.mono hsw))
        generalize (w3.alloc (.cells zRn 42)).setRow w3.heap.size (#[.string (bstr y.rule), .int .i64 y.id, .int .i64 y.err, .slice none 0 0] : Array Value) = w5 at *
        have hz8 := (Below.refl w5.heap.size w5).alloc (Nat.le_refl _) (.cells #[.string (bstr y.rule), .int .i64 y.id, .int .i64 y.err, .slice none 0 0, .int .i64 (y.lv : Int)] 109)
        have HOW8 := hid (HOW5.out.bel hz8)
        have HK8 := hid (HK5.out.below hz8 hs5)
        have HB8 := hid (HB5.out.trans (hz8.mono HB5.out.size))
        have HRD8 : Hid (Rd (w5.alloc (.cells #[.string (bstr y.rule), .int .i64 y.id, .int .i64 y.err, .slice none 0 0, .int .i64 (y.lv : Int)] 109)) (some ⟨w5.heap.size, 0, none⟩) (1 * 5) (rwC y)) := hid (Rd.of_blk (vs := rwC y) (Blk.new w5 109 _))
        have hs8b : w.heap.size + 1 ≤ (w5.alloc (.cells #[.string (bstr y.rule), .int .i64 y.id, .int .i64 y.err, .slice none 0 0, .int .i64 (y.lv : Int)] 109)).heap.size := by rw [World.size_alloc]; omega
        have HO1 : Hid (∀ u ∈ rwC y, u.oneCell' = true) := hid (by intro u hu; unfold rwC at hu; simp at hu; rcases hu with rfl | rfl | rfl | rfl | rfl <;> rfl)
        obtain ⟨xs, hown8, hcs8⟩ := HOW8.out
        have HOL : Hid (∀ k, (Value.slice A 0 c).ownBlock = some k → w.heap.size + 1 ≤ k) := hid (fun k hk => (hown8.lt k hk).1)
        have HOX := hid hown8
        have HCX := hid hcs8
        clear hown8 hcs8 hz8
        go_wp2_with (first
         | (refine wpList_load_row rfl 42 _ rfl w3.heap.size rfl 42 (#[.string (bstr y.rule), .int .i64 y.id, .int .i64 y.err, .slice none 0 0] : Array Value) (0, 0) _ HN5.out Tryz.underlying42 rfl size_rn ?_)
         | (at_builtin; refine app_row rowRw rfl _ _ rfl _ (.slice A 0 c) 0 xs _ (w.heap.size + 1) rfl HOX.out _ 1 1 rfl HRD8.out HO1.out hs8b (by omega) ?_; intro v9 w9 ho9 hg9 hb9 hw9))
        go_roundw
        case rel => exact ⟨⟨r.toArray⟩, [] ++ [y], rfl, rfl, HLN.out, Shp.Own.app (M := [y]) HOX.out HCX.out (Shp.Cells.one (x := y) (X := rwC y) rfl) ho9 hg9 hw9, HP2, HL39, HK8.out.grown hg9 (fun e => by have := HOL.out _ e.symm; omega), HB8.out.trans ((Below.refl w.heap.size _).grown hg9 (by omega) (fun k e => by have := HOL.out k e; omega))⟩
        case measure => exact HMS.out
       ·have HRES : Hid (Rn.parse S.data.toList = .bad 1 10) := hid (by rw [HPA.out, HPL.out, HOP.out, hc]; simp only [hr]; rw [if_neg (by simp [Rn.okLv, Rn.last, hlv])]; rfl)
        have hd1 : decide ((0 : Int) < (y.lv : Int)) = true := decide_eq_true (by omega)
        have hd2 : decide (0 < y.lv) = true := decide_eq_true (by omega)
        clear hlv hc hr
        have HB6 := hid (below_setRow (g := w.heap.size) (HB.out.trans (HBR5.out.mono hsw)) (Nat.le_refl _) zRn)
        have HK6 : Hid (Blk (((w3.alloc (.cells zRn 42)).setRow w3.heap.size (#[.string (bstr y.rule), .int .i64 y.id, .int .i64 y.err, .slice none 0 0] : Array Value)).setRow w.heap.size zRn) w.heap.size 42 zRn) := hid (setRow_heap _ _ _ _ _ _ HK5.out)
        go_wp2_with (first
         | ((with_reducible refine store_rowb rfl 42 _ _ rfl w3.heap.size (#[.string (bstr y.rule), .int .i64 y.id, .int .i64 y.err, .slice none 0 0] : Array Value) ?_ ?_ 42 zRn HN4.out HSX.out HSZV.out HOV.out ?_); rfl; rfl)
         | ((with_reducible refine store_rowb rfl 42 _ _ rfl w.heap.size zRn ?_ ?_ 42 zRn HK5.out size_rn ?_ (by simp [Value.oneCell']) ?_); rfl; rfl; rfl))
        exact bodyPost_ret (results_row_tmp2 rfl _ _ w.heap.size _ _ _ rfl HK6.out Tryz.underlying42 rfl size_rn) rfl ⟨.inl ⟨1, 10, HRES.out, rfl⟩, HB6.out⟩
   | cons x l =>
    have hT2 : T.toList.isEmpty = false := by
     rw [Lib.toList_data]
     cases hh : T.data.toList with
     | nil => exact absurd ⟨hh, by simp⟩ hT
     | cons _ _ => rfl
    clear hT
    obtain ⟨A1, c1, e1, -, hrow⟩ := HOW.out.row (ok' := fun b => w.heap.size + 1 ≤ b) (fun b h => h) (fun k hk => by
     obtain ⟨xs, h1, -⟩ := HOW.out
     exact (h1.lt k hk).1)
    injection e1 with e1 _ e2
    subst e1 e2
    obtain ⟨z, b, off, X, hz, rfl, -, hbz, hrz, rfl⟩ := hrow.at_ (i := l.length) (by simp)
    have hcz : wr.cell? ⟨b, off + l.length * 5 + 4, none⟩ = some (.int .i64 (z.lv : Int)) := hrz 4 _ rfl
    have HCZ := hid hcz
    have HLZ : Hid (Rn.last (x :: l) = some z.lv) := hid (by
     unfold Rn.last
     rw [List.getLast?_eq_getElem?]
     show ((x :: l)[l.length]?).map _ = _
     rw [hz]; rfl)
    have hzm : z ∈ x :: l := List.mem_of_getElem? hz
    have hz39 := HZ39.out z hzm
    obtain ⟨mn, hmn⟩ : ∃ mn, min (z.lv + 1) 39 = mn := ⟨_, rfl⟩
    have HMD : Hid (mn ≤ z.lv + 1 ∧ mn ≤ 39 ∧ (z.lv + 1 ≤ mn ∨ 39 ≤ mn)) := hid (by omega)
    have HMN : Hid (min ((z.lv : Int) + 1) 39 = (mn : Int)) := hid (by omega)
    have HZW : Hid (IntKind.i64.wrap ((z.lv : Int) + 1) = (z.lv : Int) + 1) := hid (IntWalk.i64_in _ (by omega))
    clear hcz hrow hz hrz hzm hmn
    have hll : l.length + 1 ≤ 100000 := by have := hlen; rw [List.length_cons] at this; omega
    have hn1 : ((l.length : Int) + 1 + 1 > 1) = True := by simp; omega
    have hn2 : (1 : Int) < (l.length : Int) + 1 + 1 := by omega
    go_wp2_with fail
    refine HCUT.out.mono ?_
    rintro e w2 ⟨rfl, n2, rfl⟩
    have HBR2 := hid (below_drewN (Below.refl wr.heap.size wr) n2)
    have HK2 := hid (HK.out.drewN n2)
    have HM2 : Hid ((wr.drewN n2).cell? ⟨0, 0, none⟩ = some (.int .i64 m)) := hid HMR.out
    have hs2 : wr.heap.size ≤ (wr.drewN n2).heap.size := Nat.le_refl _
    have hk2 : w.heap.size < (wr.drewN n2).heap.size := hkw
    generalize wr.drewN n2 = w2 at *
    cases hc : Rn.cutB 10 T.data.toList with
    | none =>
     have HCC := hid (HCN.out hc)
     have HRES : Hid (Rn.parse S.data.toList = .bad (l.length + 2) 10) := hid (by rw [HPA.out, HPL.out, HOP.out, hc]; rfl)
     clear hc
     rw [HCC.out]
     go_wp2_with fail
     refine (line_any _ m w2 (by have := HSZ.out; show T.data.toList.toArray.size ≤ _; simp; rw [str_size] at this; omega) HM2.out).mono ?_
     rintro e w3 ⟨hla, hb3⟩
     obtain ⟨V, nl, bl, rfl, hvs, hvo⟩ := hla.any
     have HSX : Hid ((Tryz.prog.info? 42).map (·.size) = some V.size) := hid (by rw [size_rea, hvs])
     have HSZV : Hid (zRn.size = V.size) := hid (by rw [hvs]; rfl)
     have HOV := hid hvo
     clear hvs hvo
     have HBR3 := hid (HBR2.out.trans (hb3.mono hs2))
     have HK3 := hid (HK2.out.below hb3 hk2)
     have hs3 := hb3.size
     clear hb3
     have HN4 := hid (Blk.new w3 42 zRn)
     have HK5 : Hid (Blk ((w3.alloc (.cells zRn 42)).setRow w3.heap.size V) w.heap.size 42 zRn) := hid ((setRow_other _ _ _ _ (by omega)).trans (HK3.out.alloc (.cells zRn 42)))
     have HN5 : Hid (Blk ((w3.alloc (.cells zRn 42)).setRow w3.heap.size V) w3.heap.size 42 V) := hid (setRow_heap _ _ _ _ _ _ HN4.out)
     have HBR5 := hid (below_setRow (g := w3.heap.size) (HBR3.out.alloc (by omega) (.cells zRn 42)) (by omega) V)
     have hs5 : w.heap.size < ((w3.alloc (.cells zRn 42)).setRow w3.heap.size V).heap.size := HK5.out.lt
     go_upto_region 11 with (((with_reducible refine store_rowb rfl 42 _ _ rfl w3.heap.size V ?_ ?_ 42 zRn HN4.out HSX.out HSZV.out HOV.out ?_); rfl; rfl))
     have HCZ5 : Hid (((w3.alloc (.cells zRn 42)).setRow w3.heap.size V).cell? ⟨b, off + l.length * 5 + 4, none⟩ = some (.int .i64 (z.lv : Int))) := hid ((HBR5.out.cell (p := ⟨b, off + l.length * 5 + 4, none⟩) hbz).trans HCZ.out)
     generalize (w3.alloc (.cells zRn 42)).setRow w3.heap.size V = w5a at *
     have hcz5 := HCZ5.out
     have hwr1 : IntKind.i64.wrap ((l.length : Int) + 1 + 1 - 2) = (l.length : Int) := by rw [IntWalk.i64_in _ (by omega)]; omega
     have hwr2 : (l.length : Int) < (l.length : Int) + 1 := by omega
     have hwr3 : IntKind.i64.wrap ((z.lv : Int) + 1) = (z.lv : Int) + 1 := HZW.out
     have hwr4 : min ((z.lv : Int) + 1) 39 = (mn : Int) := HMN.out
     go_quiet (fail)
     clear hcz5 hwr1 hwr2 hwr3 hwr4
     have HK5b := hid (HK5.out.drewN nq)
     have HN5b := hid (HN5.out.drewN nq)
     have HBR5b := hid (below_drewN HBR5.out nq)
     have hs5b : w.heap.size < (w5a.drewN nq).heap.size := hs5
     clear HK5 HN5 HBR5 hs5 HCZ5
     have HK5 := HK5b
     have HN5 := HN5b
     have HBR5 := HBR5b
     have hs5 := hs5b
     clear HK5b HN5b HBR5b hs5b
     have HOW5 := hid (HOW.out.bel HBR5.out)
     have HB5 := hid (HB.out.trans (HBR5.out.mono hsw))
     generalize w5a.drewN nq = w5 at *
     have HB6 := hid (below_setRow (g := w.heap.size) (HB.out.trans (HBR5.out.mono hsw)) (Nat.le_refl _) zRn)
     have HK6 : Hid (Blk ((w5).setRow w.heap.size zRn) w.heap.size 42 zRn) := hid (setRow_heap _ _ _ _ _ _ HK5.out)
     go_wp2_with (first
      | ((with_reducible refine store_rowb rfl 42 _ _ rfl w3.heap.size V ?_ ?_ 42 zRn HN4.out HSX.out HSZV.out HOV.out ?_); rfl; rfl)
      | ((with_reducible refine store_rowb rfl 42 _ _ rfl w.heap.size zRn ?_ ?_ 42 zRn HK5.out size_rn ?_ (by simp [Value.oneCell']) ?_); rfl; rfl; rfl))
     exact bodyPost_ret (results_row_tmp2 rfl _ _ w.heap.size _ _ _ rfl HK6.out Tryz.underlying42 rfl size_rn) rfl ⟨.inl ⟨(l.length + 2), 10, HRES.out, rfl⟩, HB6.out⟩
    | some q =>
     obtain ⟨a, r⟩ := q
     have HCC := hid (HCS.out a r hc)
     have hal := congrArg List.length (Rn.cutB_some hc).1
     rw [List.length_append, List.length_cons, ← str_size] at hal
     have HLA : Hid (a.length ≤ 100000) := hid (by have := HSZ.out; omega)
     rw [HCC.out]
     cases hr : Rn.row a with
     | none =>
      have HRES : Hid (Rn.parse S.data.toList = .bad (l.length + 2) 10) := hid (by rw [HPA.out, HPL.out, HOP.out, hc]; simp only [hr]; rfl)
      clear hc
      go_wp2_with fail
      refine (line_any _ m w2 (by have := HSZ.out; show a.toArray.size ≤ _; have h2 := HLA.out; simp; omega) HM2.out).mono ?_
      rintro e w3 ⟨hla, hb3⟩
      obtain ⟨V, nl, rfl, hvs, hvo⟩ := hla.no hr
      have HSX : Hid ((Tryz.prog.info? 42).map (·.size) = some V.size) := hid (by rw [size_rea, hvs])
      have HSZV : Hid (zRn.size = V.size) := hid (by rw [hvs]; rfl)
      have HOV := hid hvo
      clear hvs hvo
      have HBR3 := hid (HBR2.out.trans (hb3.mono hs2))
      have HK3 := hid (HK2.out.below hb3 hk2)
      have hs3 := hb3.size
      clear hb3
      have HN4 := hid (Blk.new w3 42 zRn)
      have HK5 : Hid (Blk ((w3.alloc (.cells zRn 42)).setRow w3.heap.size V) w.heap.size 42 zRn) := hid ((setRow_other _ _ _ _ (by omega)).trans (HK3.out.alloc (.cells zRn 42)))
      have HN5 : Hid (Blk ((w3.alloc (.cells zRn 42)).setRow w3.heap.size V) w3.heap.size 42 V) := hid (setRow_heap _ _ _ _ _ _ HN4.out)
      have HBR5 := hid (below_setRow (g := w3.heap.size) (HBR3.out.alloc (by omega) (.cells zRn 42)) (by omega) V)
      have hs5 : w.heap.size < ((w3.alloc (.cells zRn 42)).setRow w3.heap.size V).heap.size := HK5.out.lt
      go_upto_region 11 with (((with_reducible refine store_rowb rfl 42 _ _ rfl w3.heap.size V ?_ ?_ 42 zRn HN4.out HSX.out HSZV.out HOV.out ?_); rfl; rfl))
      have HCZ5 : Hid (((w3.alloc (.cells zRn 42)).setRow w3.heap.size V).cell? ⟨b, off + l.length * 5 + 4, none⟩ = some (.int .i64 (z.lv : Int))) := hid ((HBR5.out.cell (p := ⟨b, off + l.length * 5 + 4, none⟩) hbz).trans HCZ.out)
      generalize (w3.alloc (.cells zRn 42)).setRow w3.heap.size V = w5a at *
      have hcz5 := HCZ5.out
      have hwr1 : IntKind.i64.wrap ((l.length : Int) + 1 + 1 - 2) = (l.length : Int) := by rw [IntWalk.i64_in _ (by omega)]; omega
      have hwr2 : (l.length : Int) < (l.length : Int) + 1 := by omega
      have hwr3 : IntKind.i64.wrap ((z.lv : Int) + 1) = (z.lv : Int) + 1 := HZW.out
      have hwr4 : min ((z.lv : Int) + 1) 39 = (mn : Int) := HMN.out
      go_quiet (fail)
      clear hcz5 hwr1 hwr2 hwr3 hwr4
      have HK5b := hid (HK5.out.drewN nq)
      have HN5b := hid (HN5.out.drewN nq)
      have HBR5b := hid (below_drewN HBR5.out nq)
      have hs5b : w.heap.size < (w5a.drewN nq).heap.size := hs5
      clear HK5 HN5 HBR5 hs5 HCZ5
      have HK5 := HK5b
      have HN5 := HN5b
      have HBR5 := HBR5b
      have hs5 := hs5b
      clear HK5b HN5b HBR5b hs5b
      have HOW5 := hid (HOW.out.bel HBR5.out)
      have HB5 := hid (HB.out.trans (HBR5.out.mono hsw))
      generalize w5a.drewN nq = w5 at *
      have HB6 := hid (below_setRow (g := w.heap.size) (HB.out.trans (HBR5.out.mono hsw)) (Nat.le_refl _) zRn)
      have HK6 : Hid (Blk ((w5).setRow w.heap.size zRn) w.heap.size 42 zRn) := hid (setRow_heap _ _ _ _ _ _ HK5.out)
      go_wp2_with (first
       | ((with_reducible refine store_rowb rfl 42 _ _ rfl w3.heap.size V ?_ ?_ 42 zRn HN4.out HSX.out HSZV.out HOV.out ?_); rfl; rfl)
       | ((with_reducible refine store_rowb rfl 42 _ _ rfl w.heap.size zRn ?_ ?_ 42 zRn HK5.out size_rn ?_ (by simp [Value.oneCell']) ?_); rfl; rfl; rfl))
      exact bodyPost_ret (results_row_tmp2 rfl _ _ w.heap.size _ _ _ rfl HK6.out Tryz.underlying42 rfl size_rn) rfl ⟨.inl ⟨(l.length + 2), 10, HRES.out, rfl⟩, HB6.out⟩
     | some y =>
      go_wp2_with fail
      refine (line_any _ m w2 (by have := HSZ.out; show a.toArray.size ≤ _; have h2 := HLA.out; simp; omega) HM2.out).mono ?_
      rintro e w3 ⟨hla, hb3⟩
      obtain rfl := hla.yes hr
      have HSX : Hid ((Tryz.prog.info? 42).map (·.size) = some (#[.string (bstr y.rule), .int .i64 y.id, .int .i64 y.err, .slice none 0 0] : Array Value).size) := hid size_rea
      have HSZV : Hid (zRn.size = (#[.string (bstr y.rule), .int .i64 y.id, .int .i64 y.err, .slice none 0 0] : Array Value).size) := hid rfl
      have HOV : Hid ((#[.string (bstr y.rule), .int .i64 y.id, .int .i64 y.err, .slice none 0 0] : Array Value).all (·.oneCell') = true) := hid (by simp [Value.oneCell'])
      have HBR3 := hid (HBR2.out.trans (hb3.mono hs2))
      have HK3 := hid (HK2.out.below hb3 hk2)
      have hs3 := hb3.size
      clear hb3
      have HN4 := hid (Blk.new w3 42 zRn)
      have HK5 : Hid (Blk ((w3.alloc (.cells zRn 42)).setRow w3.heap.size (#[.string (bstr y.rule), .int .i64 y.id, .int .i64 y.err, .slice none 0 0] : Array Value)) w.heap.size 42 zRn) := hid ((setRow_other _ _ _ _ (by omega)).trans (HK3.out.alloc (.cells zRn 42)))
      have HN5 : Hid (Blk ((w3.alloc (.cells zRn 42)).setRow w3.heap.size (#[.string (bstr y.rule), .int .i64 y.id, .int .i64 y.err, .slice none 0 0] : Array Value)) w3.heap.size 42 (#[.string (bstr y.rule), .int .i64 y.id, .int .i64 y.err, .slice none 0 0] : Array Value)) := hid (setRow_heap _ _ _ _ _ _ HN4.out)
      have HBR5 := hid (below_setRow (g := w3.heap.size) (HBR3.out.alloc (by omega) (.cells zRn 42)) (by omega) (#[.string (bstr y.rule), .int .i64 y.id, .int .i64 y.err, .slice none 0 0] : Array Value))
      have hs5 : w.heap.size < ((w3.alloc (.cells zRn 42)).setRow w3.heap.size (#[.string (bstr y.rule), .int .i64 y.id, .int .i64 y.err, .slice none 0 0] : Array Value)).heap.size := HK5.out.lt
      by_cases hlv : 1 ≤ y.lv ∧ y.lv ≤ mn
      ·have hL0 : ([] : List Rn.Rw).length = 0 := rfl
       have HLN : Hid (((x :: l) ++ [y]).length + (⟨r.toArray⟩ : ByteArray).size ≤ S.size) := hid (by rw [List.length_append]; show _ + 1 + r.length ≤ _; omega)
       have HMS : Hid ((⟨r.toArray⟩ : ByteArray).size < T.size) := hid (by show r.length < _; omega)
       clear hL0
       have HLN' : Hid True := hid trivial
       have HP2 : Hid (Rn.parseA [] S.data.toList = Rn.parseA ((x :: l) ++ [y]) (⟨r.toArray⟩ : ByteArray).data.toList) := hid (by rw [HPL.out, HOP.out, hc]; simp only [hr]; rw [if_pos (by rw [HLZ.out]; have := HMD.out; simp [Rn.okLv]; omega)])
       have HL39 : Hid (∀ q ∈ (x :: l) ++ [y], q.lv ≤ 39) := hid (fun q hq => by
        rcases List.mem_append.1 hq with h | h
        ·exact HZ39.out q h
        ·rw [List.mem_singleton.1 h]; have := HMD.out; omega)
       have hd1 : decide ((y.lv : Int) < 1) = false := decide_eq_false (by omega)
       have hd2 : decide ((mn : Int) < (y.lv : Int)) = false := decide_eq_false (by omega)
       have hd3 : decide (mn < y.lv) = false := decide_eq_false (by omega)
       have hd4 : 1 ≤ y.lv := hlv.1
       clear hlv hc hr
       go_upto_region 11 with (((with_reducible refine store_rowb rfl 42 _ _ rfl w3.heap.size (#[.string (bstr y.rule), .int .i64 y.id, .int .i64 y.err, .slice none 0 0] : Array Value) ?_ ?_ 42 zRn HN4.out HSX.out HSZV.out HOV.out ?_); rfl; rfl))
       have HCZ5 : Hid (((w3.alloc (.cells zRn 42)).setRow w3.heap.size (#[.string (bstr y.rule), .int .i64 y.id, .int .i64 y.err, .slice none 0 0] : Array Value)).cell? ⟨b, off + l.length * 5 + 4, none⟩ = some (.int .i64 (z.lv : Int))) := hid ((HBR5.out.cell (p := ⟨b, off + l.length * 5 + 4, none⟩) hbz).trans HCZ.out)
       generalize (w3.alloc (.cells zRn 42)).setRow w3.heap.size (#[.string (bstr y.rule), .int .i64 y.id, .int .i64 y.err, .slice none 0 0] : Array Value) = w5a at *
       have hcz5 := HCZ5.out
       have hwr1 : IntKind.i64.wrap ((l.length : Int) + 1 + 1 - 2) = (l.length : Int) := by rw [IntWalk.i64_in _ (by omega)]; omega
       have hwr2 : (l.length : Int) < (l.length : Int) + 1 := by omega
       have hwr3 : IntKind.i64.wrap ((z.lv : Int) + 1) = (z.lv : Int) + 1 := HZW.out
       have hwr4 : min ((z.lv : Int) + 1) 39 = (mn : Int) := HMN.out
       go_quiet (fail)
       clear hcz5 hwr1 hwr2 hwr3 hwr4
       have HK5b := hid (HK5.out.drewN nq)
       have HN5b := hid (HN5.out.drewN nq)
       have HBR5b := hid (below_drewN HBR5.out nq)
       have hs5b : w.heap.size < (w5a.drewN nq).heap.size := hs5
       clear HK5 HN5 HBR5 hs5 HCZ5
       have HK5 := HK5b
       have HN5 := HN5b
       have HBR5 := HBR5b
       have hs5 := hs5b
       clear HK5b HN5b HBR5b hs5b
       have HOW5 := hid (HOW.out.bel HBR5.out)
       have HB5 := hid (HB.out.trans (HBR5.out.mono hsw))
       generalize w5a.drewN nq = w5 at *
       have hz8 := (Below.refl w5.heap.size w5).alloc (Nat.le_refl _) (.cells #[.string (bstr y.rule), .int .i64 y.id, .int .i64 y.err, .slice none 0 0, .int .i64 (y.lv : Int)] 109)
       have HOW8 := hid (HOW5.out.bel hz8)
       have HK8 := hid (HK5.out.below hz8 hs5)
       have HB8 := hid (HB5.out.trans (hz8.mono HB5.out.size))
       have HRD8 : Hid (Rd (w5.alloc (.cells #[.string (bstr y.rule), .int .i64 y.id, .int .i64 y.err, .slice none 0 0, .int .i64 (y.lv : Int)] 109)) (some ⟨w5.heap.size, 0, none⟩) (1 * 5) (rwC y)) := hid (Rd.of_blk (vs := rwC y) (Blk.new w5 109 _))
       have hs8b : w.heap.size + 1 ≤ (w5.alloc (.cells #[.string (bstr y.rule), .int .i64 y.id, .int .i64 y.err, .slice none 0 0, .int .i64 (y.lv : Int)] 109)).heap.size := by rw [World.size_alloc]; omega
       have HO1 : Hid (∀ u ∈ rwC y, u.oneCell' = true) := hid (by intro u hu; unfold rwC at hu; simp at hu; rcases hu with rfl | rfl | rfl | rfl | rfl <;> rfl)
       obtain ⟨xs, hown8, hcs8⟩ := HOW8.out
       have HOL : Hid (∀ k, (Value.slice (some ⟨b, off, none⟩) (l.length + 1) c).ownBlock = some k → w.heap.size + 1 ≤ k) := hid (fun k hk => (hown8.lt k hk).1)
       have HOX := hid hown8
       have HCX := hid hcs8
       clear hown8 hcs8 hz8
       go_wp2_with (first
        | (refine wpList_load_row rfl 42 _ rfl w3.heap.size rfl 42 (#[.string (bstr y.rule), .int .i64 y.id, .int .i64 y.err, .slice none 0 0] : Array Value) (0, 0) _ HN5.out Tryz.underlying42 rfl size_rn ?_)
        | (at_builtin; refine app_row rowRw rfl _ _ rfl _ (.slice (some ⟨b, off, none⟩) (l.length + 1) c) (l.length + 1) xs _ (w.heap.size + 1) rfl HOX.out _ 1 1 rfl HRD8.out HO1.out hs8b (by omega) ?_; intro v9 w9 ho9 hg9 hb9 hw9))
       go_roundw
       case rel => exact ⟨⟨r.toArray⟩, ((x :: l)) ++ [y], rfl, by simp, HLN.out, Shp.Own.app (M := [y]) HOX.out HCX.out (Shp.Cells.one (x := y) (X := rwC y) rfl) ho9 hg9 hw9, HP2, HL39, HK8.out.grown hg9 (fun e => by have := HOL.out _ e.symm; omega), HB8.out.trans ((Below.refl w.heap.size _).grown hg9 (by omega) (fun k e => by have := HOL.out k e; omega))⟩
       case measure => exact HMS.out
      ·have HRES : Hid (Rn.parse S.data.toList = .bad (l.length + 2) 10) := hid (by rw [HPA.out, HPL.out, HOP.out, hc]; simp only [hr]; rw [if_neg (by rw [HLZ.out]; have := HMD.out; simp [Rn.okLv]; omega)]; rfl)
       clear hc hr
       by_cases hl1 : 1 ≤ y.lv
       ·have hd1 : decide ((y.lv : Int) < 1) = false := decide_eq_false (by omega)
        have hd2 : decide ((mn : Int) < (y.lv : Int)) = true := decide_eq_true (by omega)
        have hd3 : decide (mn < y.lv) = true := decide_eq_true (by omega)
        clear hlv
        go_upto_region 11 with (((with_reducible refine store_rowb rfl 42 _ _ rfl w3.heap.size (#[.string (bstr y.rule), .int .i64 y.id, .int .i64 y.err, .slice none 0 0] : Array Value) ?_ ?_ 42 zRn HN4.out HSX.out HSZV.out HOV.out ?_); rfl; rfl))
        have HCZ5 : Hid (((w3.alloc (.cells zRn 42)).setRow w3.heap.size (#[.string (bstr y.rule), .int .i64 y.id, .int .i64 y.err, .slice none 0 0] : Array Value)).cell? ⟨b, off + l.length * 5 + 4, none⟩ = some (.int .i64 (z.lv : Int))) := hid ((HBR5.out.cell (p := ⟨b, off + l.length * 5 + 4, none⟩) hbz).trans HCZ.out)
        generalize (w3.alloc (.cells zRn 42)).setRow w3.heap.size (#[.string (bstr y.rule), .int .i64 y.id, .int .i64 y.err, .slice none 0 0] : Array Value) = w5a at *
        have hcz5 := HCZ5.out
        have hwr1 : IntKind.i64.wrap ((l.length : Int) + 1 + 1 - 2) = (l.length : Int) := by rw [IntWalk.i64_in _ (by omega)]; omega
        have hwr2 : (l.length : Int) < (l.length : Int) + 1 := by omega
        have hwr3 : IntKind.i64.wrap ((z.lv : Int) + 1) = (z.lv : Int) + 1 := HZW.out
        have hwr4 : min ((z.lv : Int) + 1) 39 = (mn : Int) := HMN.out
        go_quiet (fail)
        clear hcz5 hwr1 hwr2 hwr3 hwr4
        have HK5b := hid (HK5.out.drewN nq)
        have HN5b := hid (HN5.out.drewN nq)
        have HBR5b := hid (below_drewN HBR5.out nq)
        have hs5b : w.heap.size < (w5a.drewN nq).heap.size := hs5
        clear HK5 HN5 HBR5 hs5 HCZ5
        have HK5 := HK5b
        have HN5 := HN5b
        have HBR5 := HBR5b
        have hs5 := hs5b
        clear HK5b HN5b HBR5b hs5b
        have HOW5 := hid (HOW.out.bel HBR5.out)
        have HB5 := hid (HB.out.trans (HBR5.out.mono hsw))
        generalize w5a.drewN nq = w5 at *
        have HB6 := hid (below_setRow (g := w.heap.size) (HB.out.trans (HBR5.out.mono hsw)) (Nat.le_refl _) zRn)
        have HK6 : Hid (Blk ((w5).setRow w.heap.size zRn) w.heap.size 42 zRn) := hid (setRow_heap _ _ _ _ _ _ HK5.out)
        go_wp2_with (first
         | ((with_reducible refine store_rowb rfl 42 _ _ rfl w3.heap.size (#[.string (bstr y.rule), .int .i64 y.id, .int .i64 y.err, .slice none 0 0] : Array Value) ?_ ?_ 42 zRn HN4.out HSX.out HSZV.out HOV.out ?_); rfl; rfl)
         | ((with_reducible refine store_rowb rfl 42 _ _ rfl w.heap.size zRn ?_ ?_ 42 zRn HK5.out size_rn ?_ (by simp [Value.oneCell']) ?_); rfl; rfl; rfl))
        exact bodyPost_ret (results_row_tmp2 rfl _ _ w.heap.size _ _ _ rfl HK6.out Tryz.underlying42 rfl size_rn) rfl ⟨.inl ⟨(l.length + 2), 10, HRES.out, rfl⟩, HB6.out⟩
       ·have hd1 : decide ((y.lv : Int) < 1) = true := decide_eq_true (by omega)
        have hd2 : y.lv < 1 := by omega
        clear hlv
        go_upto_region 11 with (((with_reducible refine store_rowb rfl 42 _ _ rfl w3.heap.size (#[.string (bstr y.rule), .int .i64 y.id, .int .i64 y.err, .slice none 0 0] : Array Value) ?_ ?_ 42 zRn HN4.out HSX.out HSZV.out HOV.out ?_); rfl; rfl))
        have HCZ5 : Hid (((w3.alloc (.cells zRn 42)).setRow w3.heap.size (#[.string (bstr y.rule), .int .i64 y.id, .int .i64 y.err, .slice none 0 0] : Array Value)).cell? ⟨b, off + l.length * 5 + 4, none⟩ = some (.int .i64 (z.lv : Int))) := hid ((HBR5.out.cell (p := ⟨b, off + l.length * 5 + 4, none⟩) hbz).trans HCZ.out)
        generalize (w3.alloc (.cells zRn 42)).setRow w3.heap.size (#[.string (bstr y.rule), .int .i64 y.id, .int .i64 y.err, .slice none 0 0] : Array Value) = w5a at *
        have hcz5 := HCZ5.out
        have hwr1 : IntKind.i64.wrap ((l.length : Int) + 1 + 1 - 2) = (l.length : Int) := by rw [IntWalk.i64_in _ (by omega)]; omega
        have hwr2 : (l.length : Int) < (l.length : Int) + 1 := by omega
        have hwr3 : IntKind.i64.wrap ((z.lv : Int) + 1) = (z.lv : Int) + 1 := HZW.out
        have hwr4 : min ((z.lv : Int) + 1) 39 = (mn : Int) := HMN.out
        go_quiet (fail)
        clear hcz5 hwr1 hwr2 hwr3 hwr4
        have HK5b := hid (HK5.out.drewN nq)
        have HN5b := hid (HN5.out.drewN nq)
        have HBR5b := hid (below_drewN HBR5.out nq)
        have hs5b : w.heap.size < (w5a.drewN nq).heap.size := hs5
        clear HK5 HN5 HBR5 hs5 HCZ5
        have HK5 := HK5b
        have HN5 := HN5b
        have HBR5 := HBR5b
        have hs5 := hs5b
        clear HK5b HN5b HBR5b hs5b
        have HOW5 := hid (HOW.out.bel HBR5.out)
        have HB5 := hid (HB.out.trans (HBR5.out.mono hsw))
        generalize w5a.drewN nq = w5 at *
        have HB6 := hid (below_setRow (g := w.heap.size) (HB.out.trans (HBR5.out.mono hsw)) (Nat.le_refl _) zRn)
        have HK6 : Hid (Blk ((w5).setRow w.heap.size zRn) w.heap.size 42 zRn) := hid (setRow_heap _ _ _ _ _ _ HK5.out)
        go_wp2_with (first
         | ((with_reducible refine store_rowb rfl 42 _ _ rfl w3.heap.size (#[.string (bstr y.rule), .int .i64 y.id, .int .i64 y.err, .slice none 0 0] : Array Value) ?_ ?_ 42 zRn HN4.out HSX.out HSZV.out HOV.out ?_); rfl; rfl)
         | ((with_reducible refine store_rowb rfl 42 _ _ rfl w.heap.size zRn ?_ ?_ 42 zRn HK5.out size_rn ?_ (by simp [Value.oneCell']) ?_); rfl; rfl; rfl))
        exact bodyPost_ret (results_row_tmp2 rfl _ _ w.heap.size _ _ _ rfl HK6.out Tryz.underlying42 rfl size_rn) rfl ⟨.inl ⟨(l.length + 2), 10, HRES.out, rfl⟩, HB6.out⟩
end Go.Proofs.YtacjhbbieeliaaaGreatDoor
/- The text Es. -/
namespace Rn
theorem until_hit {c : UInt8} {s : Str} {k : Nat} (h : s[k]? = some c) : untilF c s k = k := by
 obtain ⟨h1, h2⟩ := List.getElem?_eq_some_iff.1 h
 unfold untilF
 rw [List.drop_eq_getElem_cons h1, h2, List.takeWhile_cons]
 simp
theorem until_miss {c d : UInt8} {s : Str} {k : Nat} (h : s[k]? = some d) (hd : d ≠ c) : untilF c s k = untilF c s (k + 1) := by
 obtain ⟨h1, h2⟩ := List.getElem?_eq_some_iff.1 h
 unfold untilF
 rw [List.drop_eq_getElem_cons h1, h2, List.takeWhile_cons, if_pos (by rw [bne_iff_ne]; exact hd), List.length_cons]
 omega
theorem until_end {c : UInt8} {s : Str} {k : Nat} (h : s.length ≤ k) : untilF c s k = k := by
 unfold untilF
 rw [List.drop_eq_nil_of_le h]
 rfl
end Rn
namespace Go.Proofs.YtacjhbbieeliaaaGreatDoor
open Go.RowKit Go.Lib
set_option linter.unusedVariables false
set_option linter.unusedSimpArgs false
end Go.Proofs.YtacjhbbieeliaaaGreatDoor
