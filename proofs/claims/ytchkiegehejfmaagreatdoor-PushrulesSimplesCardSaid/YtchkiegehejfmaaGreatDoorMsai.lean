/- The text Ui. -/
import Derived.Test.YtchkiegehejfmaaGreatDoorMsaf
set_option linter.unusedSimpArgs false
set_option maxHeartbeats 16000000
set_option maxRecDepth 100000
set_option linter.unusedVariables false
namespace Pr
theorem isSound_no {s : Str} (h : ¬ soundW <+: s) : isSound s = false := by unfold isSound; rw [decide_eq_false h, Bool.false_and]
theorem isSound_yes {s : Str} (h : soundW <+: s) : isSound s = okName true (s.drop 6) := by unfold isSound; rw [decide_eq_true h, Bool.true_and]
theorem pre_take {p s : Str} : p <+: s ↔ p.length ≤ s.length ∧ s.take p.length = p := by
  constructor
  · rintro ⟨t, rfl⟩
    exact ⟨by rw [List.length_append]; omega, List.take_left⟩
  · rintro ⟨_, h⟩
    exact ⟨s.drop p.length, by conv => lhs; rw [← h]
                               rw [List.length_take, Nat.min_eq_left (by assumption), List.take_append_drop]⟩
end Pr
namespace Go.Proofs.YtchkiegehejfmaaGreatDoor
open Go.RowKit Go.Lib
theorem AK (s : ByteArray) (a b : Nat) : (s.extract a b).data.toList = (s.data.toList.drop a).take (b - a) := by
  rw [ByteArray.data_extract, Array.toList_extract]
theorem BH (s : ByteArray) (k : Nat) : s.extract k s.size = bstr (s.data.toList.drop k) := A5 (by
  rw [AK, List.take_of_length_le]
  · rfl
  · rw [List.length_drop, ← Am]
    exact Nat.le_refl _)
theorem Cs (s : ByteArray) (k : Nat) : s.extract 0 k = bstr (s.data.toList.take k) := A5 (by rw [AK]; rfl)
theorem Cm (S : ByteArray) (l : List UInt8) : (S.toList == l) = (S.data.toList == l) := by rw [Lib.toList_data]
theorem AD (x y : List UInt8) : ((bstr x).toList == y) = (x == y) := by rw [Lib.toList_data]; rfl
theorem Dn (S T : ByteArray) (w : World) (hs : S.size ≤ 1000000) (ht : T.size ≤ 1000000) : Calls Tryz.prog 174 #[.string S, .string T] w fun e w' => e = .returned (.bool (decide (T.data.toList <+: S.data.toList))) ∧ w = w' := by
  have h1 := Am S;have h2 := Am T;have hx := Cs S T.size;have hl := Cm (bstr (S.data.toList.take T.size)) T.data.toList;by_cases h : T.size ≤ S.size
  · have hI : (T.size : Int) ≤ (S.size : Int) := by omega
    obtain ⟨R, hR⟩ : ∃ R, decide (T.data.toList <+: S.data.toList) = R := ⟨_, rfl⟩;have hz : ((S.extract 0 T.size).toList == T.toList) = R := by
      rw [hx, Lib.toList_data, Lib.toList_data, ← hR];show (S.data.toList.take T.size == T.data.toList) = _;by_cases hp : T.data.toList <+: S.data.toList
      · rw [decide_eq_true hp, beq_iff_eq]
        have := (Pr.pre_take.1 hp).2;rwa [← h2] at this
      · rw [decide_eq_false hp, beq_eq_false_iff_ne]
        intro e;exact hp (Pr.pre_take.2 ⟨by omega, by rw [← h2]; exact e⟩)
    rw [hR];clear hR hx hl h1 h2;go_enter Tryz.func174, Tryz.ntmps174;go_wp2_with fail;go_ret;exact ⟨rfl, by trivial⟩
  · have hI : ¬ (T.size : Int) ≤ (S.size : Int) := by omega
    rw [decide_eq_false (fun hp => by have := (Pr.pre_take.1 hp).1; omega)];clear hx hl h1 h2;go_enter Tryz.func174, Tryz.ntmps174;go_wp2_with fail;go_ret;exact ⟨rfl, rfl⟩
theorem Fc (S T : ByteArray) (w : World) (hs : S.size ≤ 1000000) (ht : T.size ≤ 1000000) (hp : T.data.toList <+: S.data.toList) : Calls Tryz.prog 155 #[.string S, .string T] w fun e w' => e = .returned (.tuple #[.string (bstr (S.data.toList.drop T.size)), .bool true]) ∧ w = w' := by
  have HP := hid (fun W => Dn S T W hs ht);rw [decide_eq_true hp] at HP;have hle : T.size ≤ S.size := by have := (Pr.pre_take.1 hp).1; have h1 := Am S; have h2 := Am T; omega
  have hleI : (T.size : Int) ≤ (S.size : Int) := by omega
  have hx := BH S T.size;clear hp
  have HC : Hid (∀ W, Calls Tryz.prog 167 #[.string S, .string T] W fun e w' => e = .returned (.tuple #[.string (bstr (S.data.toList.drop T.size)), .bool true]) ∧ W = w') := hid (by
    intro W;go_enter Tryz.func167, Tryz.ntmps167;go_wp2_with fail;refine (HP.out _).mono ?_;rintro e w2 ⟨rfl, rfl⟩;go_wp2_with fail
    go_ret2
    exact ⟨rfl, rfl⟩)
  go_enter Tryz.func155, Tryz.ntmps155;go_wp2_with fail;refine (HC.out _).mono ?_;rintro e w2 ⟨rfl, rfl⟩;go_wp2_with fail
  go_ret2
  exact ⟨rfl, rfl⟩
theorem F5 (S T : ByteArray) (w : World) (hs : S.size ≤ 1000000) (ht : T.size ≤ 1000000) (hp : ¬ T.data.toList <+: S.data.toList) : Calls Tryz.prog 155 #[.string S, .string T] w fun e w' => e = .returned (.tuple #[.string S, .bool false]) ∧ w = w' := by
  have HP := hid (fun W => Dn S T W hs ht);rw [decide_eq_false hp] at HP;clear hp
  have HC : Hid (∀ W, Calls Tryz.prog 167 #[.string S, .string T] W fun e w' => e = .returned (.tuple #[.string S, .bool false]) ∧ W = w') := hid (by
    intro W;go_enter Tryz.func167, Tryz.ntmps167;go_wp2_with fail;refine (HP.out _).mono ?_;rintro e w2 ⟨rfl, rfl⟩;go_wp2_with fail
    go_ret2
    exact ⟨rfl, rfl⟩)
  go_enter Tryz.func155, Tryz.ntmps155;go_wp2_with fail;refine (HC.out _).mono ?_;rintro e w2 ⟨rfl, rfl⟩;go_wp2_with fail
  go_ret2
  exact ⟨rfl, rfl⟩
theorem Cx (S : ByteArray) (w : World) (hs : S.size ≤ 1000000) : Calls Tryz.prog 127 #[.string S] w fun e w' => e = .returned (.bool (Pr.isSound S.data.toList)) ∧ w = w' := by
  by_cases hp : Pr.soundW <+: S.data.toList
  · have HC := hid (fun W => Fc S ⟨#[115, 111, 117, 110, 100, 61]⟩ W hs (by decide) hp)
    rw [show (⟨#[115, 111, 117, 110, 100, 61]⟩ : ByteArray).size = 6 from rfl] at HC;rw [Pr.isSound_yes hp];have HN := hid (fun W => DQ (bstr (S.data.toList.drop 6)) W (by rw [Ai, List.length_drop, ← Am]; omega));rw [show (bstr (S.data.toList.drop 6)).data.toList = S.data.toList.drop 6 from rfl] at HN;clear hp;generalize bstr (S.data.toList.drop 6) = D at *;go_enter Tryz.func127, Tryz.ntmps127;go_wp2_with fail;refine (HC.out _).mono ?_;rintro e w2 ⟨rfl, rfl⟩;go_wp2_with fail;refine (HN.out _).mono ?_;rintro e w2 ⟨rfl, rfl⟩;go_wp2_with fail;go_ret;exact ⟨rfl, rfl⟩
  · have HC := hid (fun W => F5 S ⟨#[115, 111, 117, 110, 100, 61]⟩ W hs (by decide) hp)
    rw [Pr.isSound_no hp];clear hp;go_enter Tryz.func127, Tryz.ntmps127;go_wp2_with fail;refine (HC.out _).mono ?_;rintro e w2 ⟨rfl, rfl⟩;go_wp2_with fail;go_ret;exact ⟨rfl, rfl⟩
theorem Ca (S : ByteArray) (w : World) (hs : S.size ≤ 1000000) : Calls Tryz.prog 134 #[.string S] w fun e w' => e = .returned (.bool (Pr.isSound S.data.toList)) ∧ w = w' := by
  have h1 := Am S;have hd := BH S 6;have ht := Cs S 6;have HN := hid (fun W => Ce true (bstr (S.data.toList.drop 6)) W (by rw [Ai, List.length_drop, ← Am]; omega));rw [show (bstr (S.data.toList.drop 6)).data.toList = S.data.toList.drop 6 from rfl] at HN;by_cases h6 : 6 < S.size
  · have h6I : (6 : Int) < (S.size : Int) := by omega
    have hz : ((S.extract 0 6).toList == [115, 111, 117, 110, 100, 61]) = decide (Pr.soundW <+: S.data.toList) := by
      rw [ht, AD];by_cases hp : Pr.soundW <+: S.data.toList
      · rw [decide_eq_true hp, beq_iff_eq]
        exact (Pr.pre_take.1 hp).2
      · rw [decide_eq_false hp, beq_eq_false_iff_ne]
        intro e;exact hp (Pr.pre_take.2 ⟨by show 6 ≤ _; omega, e⟩)
    by_cases hp : Pr.soundW <+: S.data.toList
    · rw [decide_eq_true hp] at hz
      rw [Pr.isSound_yes hp];clear hp ht h1;generalize bstr (S.data.toList.drop 6) = D at *;go_enter Tryz.func134, Tryz.ntmps134;go_wp2_with fail;refine (HN.out _).mono ?_;rintro e w2 ⟨rfl, rfl⟩;go_wp2_with fail;go_ret;exact ⟨rfl, rfl⟩
    · rw [decide_eq_false hp] at hz
      rw [Pr.isSound_no hp];clear hp ht hd h1;go_enter Tryz.func134, Tryz.ntmps134;go_wp2_with fail;go_ret;exact ⟨rfl, rfl⟩
  · have h6I : ¬ (6 : Int) < (S.size : Int) := by omega
    have hf : Pr.isSound S.data.toList = false := by
      by_cases hp : Pr.soundW <+: S.data.toList
      · rw [Pr.isSound_yes hp]
        exact Pr.okName_short (by rw [List.length_drop]; omega)
      · exact Pr.isSound_no hp
    rw [hf];clear hd ht hf h1;go_enter Tryz.func134, Tryz.ntmps134;go_wp2_with fail;go_ret;exact ⟨rfl, rfl⟩
theorem EH (S : ByteArray) (w : World) (hs : S.size ≤ 1000000) : Calls Tryz.prog 133 #[.string S] w fun e w' => e = .returned (.bool (Pr.isAct S.data.toList)) ∧ w = w' := by
  have HS := hid (fun W => Ca S W hs);have e1 := Cm S Pr.notifyW;have e2 := Cm S Pr.highW;have e3 := Cm S Pr.muteW;have e4 := Cm S Pr.countW;unfold Pr.isAct;generalize Pr.isSound S.data.toList = sb at *;rw [← e1, ← e2, ← e3, ← e4];clear e1 e2 e3 e4;unfold Pr.notifyW Pr.highW Pr.muteW Pr.countW
  cases d1 : (S.toList == [110, 111, 116, 105, 102, 121]) with
  | true =>
    go_enter Tryz.func133, Tryz.ntmps133;go_wp2_with fail;go_ret;exact ⟨rfl, rfl⟩
  | false =>
    cases d2 : (S.toList == [104, 105, 103, 104, 108, 105, 103, 104, 116]) with
    | true =>
      go_enter Tryz.func133, Tryz.ntmps133;go_wp2_with fail;go_ret;exact ⟨rfl, rfl⟩
    | false =>
      cases d3 : (S.toList == [109, 117, 116, 101]) with
      | true =>
        go_enter Tryz.func133, Tryz.ntmps133;go_wp2_with fail;go_ret;exact ⟨rfl, rfl⟩
      | false =>
        cases d4 : (S.toList == [99, 111, 117, 110, 116]) with
        | true =>
          go_enter Tryz.func133, Tryz.ntmps133;go_wp2_with fail;go_ret;exact ⟨rfl, rfl⟩
        | false =>
          go_enter Tryz.func133, Tryz.ntmps133;go_wp2_with fail;refine (HS.out _).mono ?_;rintro e w2 ⟨rfl, rfl⟩;go_wp2_with fail;go_ret;exact ⟨rfl, rfl⟩
end Go.Proofs.YtchkiegehejfmaaGreatDoor
