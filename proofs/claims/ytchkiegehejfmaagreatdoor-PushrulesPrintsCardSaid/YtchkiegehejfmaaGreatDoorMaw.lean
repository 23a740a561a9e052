/- The text W2. -/
import Derived.Test.YtchkiegehejfmaaGreatDoorMan
set_option linter.unusedSimpArgs false
set_option maxHeartbeats 16000000
set_option maxRecDepth 100000
namespace Pr
theorem tkz_some_word (w r : Str) (A : List Tk) (hw : w ≠ []) (h : ∀ c ∈ w, wordc c = true) (hr : Ar.Stop wordc r) (hA : tkz r = some A) : tkz (w ++ r) = some (⟨1, w⟩ :: A) := by
 rw [tkz_word w r hw h hr, hA]; rfl
def moreTk (l : List Str) : List Tk := l.flatMap fun b => [⟨5, []⟩, ⟨1, b⟩]
theorem act_word {s : Str} (h : isAct s = true) : s ≠ [] ∧ (∀ c ∈ s, wordc c = true) ∧ (10 : UInt8) ∉ s := by
 unfold isAct at h
 simp only [Bool.or_eq_true, beq_iff_eq] at h
 obtain (((rfl | rfl) | rfl) | rfl) | h := h
 ·exact ⟨by decide, by decide, by decide⟩
 ·exact ⟨by decide, by decide, by decide⟩
 ·exact ⟨by decide, by decide, by decide⟩
 ·exact ⟨by decide, by decide, by decide⟩
 ·unfold isSound at h
  simp only [Bool.and_eq_true, decide_eq_true_eq] at h
  obtain ⟨⟨t, rfl⟩, h2⟩ := h
  have e : (soundW ++ t).drop 6 = t := List.drop_left' rfl
  rw [e] at h2
  obtain ⟨_, k2, _⟩ := okName_word h2
  refine ⟨by simp [soundW], fun c hc => ?_, fun hc => ?_⟩
  ·rcases List.mem_append.1 hc with hc | hc
   ·exact (show ∀ c ∈ soundW, wordc c = true by decide) c hc
   ·exact k2 c hc
  ·rcases List.mem_append.1 hc with hc | hc
   ·exact absurd hc (by decide)
   ·unfold okName at h2
    simp only [Bool.and_eq_true, List.all_eq_true] at h2
    exact absurd (h2.2 10 hc) (by decide)
theorem acts_tk : ∀ (l : List Str), (∀ a ∈ l, isAct a = true) → tkz (l.flatMap fun b => 44 :: 32 :: b) = some (moreTk l) ∧ Ar.Stop wordc (l.flatMap fun b => 44 :: 32 :: b)
 | [], _ => ⟨rfl, stop_nil⟩
 | a :: l, h => by
  obtain ⟨h1, h2⟩ := acts_tk l (fun b hb => h b (List.mem_cons_of_mem _ hb))
  obtain ⟨k1, k2, _⟩ := act_word (h a (List.mem_cons_self ..))
  rw [List.flatMap_cons]
  refine ⟨?_, stop_cons _ rfl⟩
  rw [List.cons_append, tkz_mark _ _ (by decide), List.cons_append, tkz_blank, tkz_some_word a _ _ k1 k2 h2 h1]
  rfl
theorem moreP_tk : ∀ (l : List Str) (n : Nat) (acc : List Str), l.length < n → moreP n acc (moreTk l) = some (acc ++ l)
 | [], n + 1, acc, _ => by rw [List.append_nil]; rfl
 | a :: l, n + 1, acc, h => by
  rw [List.length_cons] at h
  have ih := moreP_tk l n (acc ++ [a]) (by omega)
  show moreP (n + 1) acc (⟨5, []⟩ :: ⟨1, a⟩ :: moreTk l) = _
  rw [moreP, if_pos rfl]
  show moreP n (acc ++ [a]) (moreTk l) = _
  rw [ih, List.append_assoc]
  rfl
structure Fine (x : Rl) : Prop where
 name : okName true x.name = true
 deep : depth x.wh ≤ 8
 tree : treeE x.wh = 0
 some_ : x.acts ≠ []
 acts : ∀ a ∈ x.acts, isAct a = true
 few : x.acts.length ≤ 5
theorem actsE_all : ∀ (l earlier : List Str), actsE earlier l = 0 → ∀ a ∈ l, isAct a = true
 | [], _, _, a, ha => by cases ha
 | b :: l, earlier, h, a, ha => by
  rw [actsE] at h
  split at h
  ·cases h
  ·rename_i g1
   split at h
   ·cases h
   ·rcases List.mem_cons.1 ha with e | ha
    ·subst e
     exact Bool.not_eq_false _ ▸ g1
    ·exact actsE_all l _ h a ha
theorem rule_fine {earlier : List Rl} {x : Rl} (h : ruleE earlier x = 0) : Fine x := by
 unfold ruleE at h
 split at h
 ·cases h
 ·rename_i g1
  split at h
  ·cases h
  ·split at h
   ·cases h
   ·rename_i g3
    split at h
    ·rename_i g4; exact absurd h g4
    ·rename_i g4
     unfold doE at h
     split at h
     ·cases h
     ·rename_i g5
      split at h
      ·cases h
      ·rename_i g6
       exact ⟨Bool.not_eq_false _ ▸ g1, by omega, Classical.not_not.1 g4, g5, actsE_all _ _ h, by omega⟩
theorem rules_fine : ∀ (l earlier : List Rl), rulesE earlier l = 0 → ∀ x ∈ l, Fine x
 | [], _, _, x, hx => by cases hx
 | y :: l, earlier, h, x, hx => by
  rw [rulesE] at h
  by_cases hy : ruleE earlier y = 0
  ·rw [if_neg (fun e => e hy)] at h
   rcases List.mem_cons.1 hx with e | hx
   ·rw [e]; exact rule_fine hy
   ·exact rules_fine l _ h x hx
  ·rw [if_pos hy] at h; exact absurd h hy
mutual
theorem tkC_len : ∀ (c : Cn), treeE c = 0 → depth c ≤ (tkC c).length
 | .mk o t n ks, h => by
  by_cases h23 : o = 2 ∨ o = 3
  ·have hk : treeEL ks = 0 ∧ 2 ≤ ks.length := by
    rcases tree_shape h with h | h | h | h | h | h | h
    ·omega
    ·exact ⟨h.2.2.2.2, h.2.2.2.1⟩
    all_goals omega
   rw [tkC, if_pos h23, depth]
   match ks, hk with
   | a :: b :: r, ⟨hk, _⟩ =>
    obtain ⟨ha, hk⟩ := treeEL_cons hk
    have h1 := tkC_len a ha
    have h2 := tkK_len' o false (b :: r) hk
    have h3 : (tkK o true (a :: b :: r)).length = (wrapTk (joint o a.op) (tkC a)).length + (tkK o false (b :: r)).length := by rw [tkK]; simp
    have h4 : (tkC a).length ≤ (wrapTk (joint o a.op) (tkC a)).length := by unfold wrapTk; split <;> simp <;> omega
    have h5 : depthL (a :: b :: r) = max (depth a) (depthL (b :: r)) := by rw [depthL]
    have h6 : 1 ≤ (tkK o false (b :: r)).length := by rw [tkK]; simp
    have h7 := depth_pos a
    have h8 : (tkK o false (b :: r)).length = 1 + (wrapTk (joint o b.op) (tkC b) ++ tkK o false r).length := by rw [tkK]; simp; omega
    omega
  ·by_cases h4 : o = 4
   ·rcases tree_shape h with g | g | g | g | g | g | g
    ·omega
    ·omega
    ·obtain ⟨_, _, _, k, rfl, hk⟩ := g
     have h1 := tkC_len k hk
     have h4' : (tkC k).length ≤ (wrapTk (joint 4 k.op) (tkC k)).length := by unfold wrapTk; split <;> simp <;> omega
     rw [tkC, if_neg h23, if_pos h4, depth, depthL, depthL]
     have : tkK 4 true [k] = wrapTk (joint 4 k.op) (tkC k) := by simp [tkK]
     rw [this, List.length_cons]
     omega
    all_goals omega
   ·have hk : ks = [] := by
     rcases tree_shape h with g | g | g | g | g | g | g
     ·exact g.2.2.2
     ·omega
     ·omega
     ·exact g.2.2.2.2
     ·exact g.2.2.1
     ·exact g.2.2.1
     ·exact g.2.2.2.2
    subst hk
    rw [tkC, if_neg h23, if_neg h4, depth, depthL]
    unfold leafTk
    split
    ·simp
    ·split
     ·simp
     ·split
      ·simp
      ·split <;> simp
theorem tkK_len' (o : Int) (first : Bool) : ∀ (ks : List Cn), treeEL ks = 0 → depthL ks ≤ (tkK o first ks).length
 | [], _ => by rw [depthL]; omega
 | c :: r, h => by
  obtain ⟨h1, h2⟩ := treeEL_cons h
  have h3 := tkC_len c h1
  have h4 := tkK_len' o false r h2
  have h5 : (tkC c).length ≤ (wrapTk (joint o c.op) (tkC c)).length := by unfold wrapTk; split <;> simp <;> omega
  rw [depthL, tkK]
  simp only [List.length_append]
  omega
end
def ruleTk (x : Rl) : List Tk := ⟨1, ruleW⟩ :: ⟨1, x.name⟩ :: ⟨1, whenW⟩ :: (tkC x.wh ++ ⟨1, doW⟩ :: (match x.acts with | [] => [] | a :: r => ⟨1, a⟩ :: moreTk r))
theorem tkz_rule {x : Rl} (h : Fine x) : tkz (ruleT x) = some (ruleTk x) := by
 obtain ⟨nm, wh, acts⟩ := x
 obtain ⟨h1, h2, h3, h4, h5, _⟩ := h
 dsimp only at *
 cases acts with
 | nil => exact absurd rfl h4
 | cons a r =>
  obtain ⟨k1, k2, _⟩ := okName_word h1
  obtain ⟨a1, a2, _⟩ := act_word (h5 a (List.mem_cons_self ..))
  obtain ⟨m1, m2⟩ := acts_tk r (fun b hb => h5 b (List.mem_cons_of_mem _ hb))
  have e : ruleT ⟨nm, wh, a :: r⟩ = [114, 117, 108, 101] ++ (32 :: (nm ++ (32 :: ([119, 104, 101, 110] ++ (32 :: (textC wh ++ (32 :: ([100, 111] ++ (32 :: (a ++ r.flatMap fun b => 44 :: 32 :: b)))))))))) := by simp [ruleT, joinT]
  have s1 := tkz_some_word a _ _ a1 a2 m2 m1
  have s2 : tkz ([100, 111] ++ (32 :: (a ++ r.flatMap fun b => 44 :: 32 :: b))) = some (⟨1, doW⟩ :: ⟨1, a⟩ :: moreTk r) := tkz_some_word _ _ _ (by decide) (by decide) (stop_cons _ rfl) (by rw [tkz_blank]; exact s1)
  have s3 : tkz (textC wh ++ (32 :: ([100, 111] ++ (32 :: (a ++ r.flatMap fun b => 44 :: 32 :: b))))) = some (tkC wh ++ (⟨1, doW⟩ :: ⟨1, a⟩ :: moreTk r)) := by
   rw [tkz_C wh _ h3 (stop_cons _ rfl), tkz_blank, s2]; rfl
  rw [e]
  refine tkz_some_word _ _ _ (by decide) (by decide) (stop_cons _ rfl) ?_
  rw [tkz_blank]
  refine tkz_some_word _ _ _ k1 k2 (stop_cons _ rfl) ?_
  rw [tkz_blank]
  refine tkz_some_word _ _ _ (by decide) (by decide) (stop_cons _ rfl) ?_
  rw [tkz_blank]
  exact s3
theorem ruleP_tk {x : Rl} (h : Fine x) : ruleP (ruleTk x) = some x := by
 obtain ⟨nm, wh, acts⟩ := x
 obtain ⟨h1, h2, h3, h4, h5, h6⟩ := h
 dsimp only at *
 cases acts with
 | nil => exact absurd rfl h4
 | cons a r =>
  have hl := tkC_len wh h3
  have hL : (ruleTk ⟨nm, wh, a :: r⟩).length = 3 + ((tkC wh).length + (2 + (moreTk r).length)) := by unfold ruleTk; simp; omega
  have hm : r.length ≤ (moreTk r).length := by
   clear hL h5 h4 h6
   induction r with
   | nil => simp
   | cons b r ih => unfold moreTk at *; rw [List.flatMap_cons, List.length_append, List.length_cons]; simp only [List.length_cons, List.length_nil]; omega
  have hc := cond_any (reads_C wh h3).1 ((ruleTk ⟨nm, wh, a :: r⟩).length + 1) 0 (⟨1, doW⟩ :: ⟨1, a⟩ :: moreTk r) (by omega) (by omega) rfl rfl
  have hmo := moreP_tk r ((ruleTk ⟨nm, wh, a :: r⟩).length + 1) [a] (by omega)
  unfold ruleP
  generalize (ruleTk ⟨nm, wh, a :: r⟩).length + 1 = f at *
  have e1 : needP ruleW (ruleTk ⟨nm, wh, a :: r⟩) = some (⟨1, nm⟩ :: ⟨1, whenW⟩ :: (tkC wh ++ ⟨1, doW⟩ :: ⟨1, a⟩ :: moreTk r)) := rfl
  have e2 : ∀ q : List Tk, takeF 1 (⟨1, nm⟩ :: q) = some (nm, q) := fun q => rfl
  have e3 : ∀ q : List Tk, needP whenW (⟨1, whenW⟩ :: q) = some q := fun q => rfl
  have e4 : ∀ q : List Tk, needP doW (⟨1, doW⟩ :: q) = some q := fun q => rfl
  have e5 : ∀ q : List Tk, takeF 1 (⟨1, a⟩ :: q) = some (a, q) := fun q => rfl
  simp only [e1, e2, e3, hc, e4, e5, hmo]
  rfl
theorem lineP_rule {x : Rl} (h : Fine x) : lineP (ruleT x) = some x := by
 unfold lineP
 rw [show toks ((ruleT x).length + 1) [] (ruleT x) = some (ruleTk x) from tkz_rule h]
 exact ruleP_tk h
theorem name_no10 {m : Bool} {s : Str} (h : okName m s = true) : (10 : UInt8) ∉ s := fun hc => by
 unfold okName at h
 simp only [Bool.and_eq_true, List.all_eq_true] at h
 have := h.2 10 hc
 cases m <;> exact absurd this (by decide)
theorem quote_no10 {t : Str} (h : globE t = 0) : (10 : UInt8) ∉ quoteT t := by
 have h10 : (10 : UInt8) ∉ t := fun hc => by
  unfold globE at h
  split at h
  ·cases h
  ·split at h
   ·cases h
   ·split at h
    ·cases h
    ·rename_i g
     refine g (List.any_eq_true.2 ⟨10, hc, by decide⟩)
 unfold quoteT
 intro hc
 rcases List.mem_cons.1 hc with hc | hc
 ·exact absurd hc (by decide)
 ·rcases List.mem_append.1 hc with hc | hc
  ·obtain ⟨c, h1, h2⟩ := List.mem_flatMap.1 hc
   unfold escC at h2
   split at h2
   ·rcases List.mem_cons.1 h2 with h2 | h2
    ·exact absurd h2 (by decide)
    ·rw [List.mem_singleton] at h2; subst h2; exact h10 h1
   ·rw [List.mem_singleton] at h2; subst h2; exact h10 h1
  ·exact absurd hc (by decide)
theorem leaf_no10 {o : Int} {t : Str} {n : Int} {ks : List Cn} (h : treeE (.mk o t n ks) = 0) (h2 : o ≠ 2) (h3 : o ≠ 3) (h4 : o ≠ 4) : (10 : UInt8) ∉ leafT o t n := by
 rcases tree_shape h with h | h | h | h | h | h | h
 ·obtain ⟨ho, rfl, rfl, rfl⟩ := h
  obtain h | h | h | h | h | h := ho
  all_goals subst h; decide
 ·omega
 ·omega
 ·obtain ⟨rfl, rfl, hn1, hn2, rfl⟩ := h
  obtain h | h | h | h | h | h | h | h | h | h | h | h | h | h : n = 1 ∨ n = 2 ∨ n = 3 ∨ n = 4 ∨ n = 5 ∨ n = 6 ∨ n = 7 ∨ n = 8 ∨ n = 9 ∨ n = 10 ∨ n = 11 ∨ n = 12 ∨ n = 13 ∨ n = 14 := by omega
  all_goals subst h; decide
 ·obtain ⟨ho, rfl, rfl, hg⟩ := h
  have e1 : leafT o t 0 = fieldW o ++ 32 :: quoteT t := by unfold leafT; rw [if_neg (by omega), if_pos (by omega)]
  rw [e1]
  intro hc
  rcases List.mem_append.1 hc with hc | hc
  ·obtain h | h | h := ho
   all_goals subst h; exact absurd hc (by decide)
  ·rcases List.mem_cons.1 hc with hc | hc
   ·exact absurd hc (by decide)
   ·exact quote_no10 hg hc
 ·obtain ⟨rfl, rfl, rfl, hn⟩ := h
  intro hc
  rcases List.mem_append.1 (show (10 : UInt8) ∈ [119, 111, 114, 100, 32] ++ t from hc) with hc | hc
  ·exact absurd hc (by decide)
  ·exact name_no10 hn hc
 ·obtain ⟨ho, rfl, hn1, hn2, rfl⟩ := h
  have e1 : leafT o [] n = fieldW o ++ 32 :: Ar.itoa n := by unfold leafT; rw [if_neg (by omega), if_neg (by omega), if_neg (by omega), if_pos ho]
  rw [e1]
  intro hc
  rcases List.mem_append.1 hc with hc | hc
  ·obtain h | h | h := ho
   all_goals subst h; exact absurd hc (by decide)
  ·rcases List.mem_cons.1 hc with hc | hc
   ·exact absurd hc (by decide)
   ·exact absurd (Ar.itoa_numch n 10 hc) (by decide)
mutual
theorem text_no10 : ∀ (c : Cn), treeE c = 0 → (10 : UInt8) ∉ textC c
 | .mk o t n ks, h => by
  by_cases h23 : o = 2 ∨ o = 3
  ·have hk : treeEL ks = 0 := by
    rcases tree_shape h with h | h | h | h | h | h | h
    ·omega
    ·exact h.2.2.2.2
    all_goals omega
   rw [textC, if_pos h23]
   exact textK_no10 o true ks hk
  ·by_cases h4 : o = 4
   ·have hk : treeEL ks = 0 := by
     rcases tree_shape h with h | h | h | h | h | h | h
     ·omega
     ·exact h.2.2.2.2
     ·obtain ⟨_, _, _, k, rfl, hk⟩ := h
      rw [treeEL, if_neg (fun e => e hk), treeEL]
     all_goals omega
    rw [textC, if_neg h23, if_pos h4]
    intro hc
    rcases List.mem_append.1 hc with hc | hc
    ·exact absurd hc (by decide)
    ·exact textK_no10 4 true ks hk hc
   ·rw [textC, if_neg h23, if_neg h4]
    exact leaf_no10 h (fun e => h23 (.inl e)) (fun e => h23 (.inr e)) h4
theorem textK_no10 (o : Int) (first : Bool) : ∀ (ks : List Cn), treeEL ks = 0 → (10 : UInt8) ∉ textK o first ks
 | [], _ => by rw [textK]; simp
 | c :: r, h => by
  obtain ⟨h1, h2⟩ := treeEL_cons h
  have h3 := text_no10 c h1
  have h4 := textK_no10 o false r h2
  rw [textK]
  have h5 : (10 : UInt8) ∉ sepW o := by
   unfold sepW
   split
   ·decide
   ·split <;> decide
  intro hc
  rcases List.mem_append.1 hc with hc | hc
  ·split at hc
   ·cases hc
   ·rcases List.mem_cons.1 hc with hc | hc
    ·exact absurd hc (by decide)
    ·rcases List.mem_append.1 hc with hc | hc
     ·exact h5 hc
     ·exact absurd hc (by decide)
  ·rcases List.mem_append.1 hc with hc | hc
   ·split at hc
    ·rcases List.mem_cons.1 hc with hc | hc
     ·exact absurd hc (by decide)
     ·rcases List.mem_append.1 hc with hc | hc
      ·exact h3 hc
      ·exact absurd hc (by decide)
    ·exact h3 hc
   ·exact h4 hc
end
theorem rule_no10 {x : Rl} (h : Fine x) : (10 : UInt8) ∉ ruleT x := by
 obtain ⟨nm, wh, acts⟩ := x
 obtain ⟨h1, h2, h3, h4, h5, _⟩ := h
 dsimp only at *
 have hj : ∀ l : List Str, (∀ a ∈ l, isAct a = true) → (10 : UInt8) ∉ l.flatMap fun b => 44 :: 32 :: b := fun l hl hc => by
  obtain ⟨b, hb, hc⟩ := List.mem_flatMap.1 hc
  rcases List.mem_cons.1 hc with hc | hc
  ·exact absurd hc (by decide)
  ·rcases List.mem_cons.1 hc with hc | hc
   ·exact absurd hc (by decide)
   ·exact (act_word (hl b hb)).2.2 hc
 have hja : (10 : UInt8) ∉ joinT acts := by
  cases acts with
  | nil => simp [joinT]
  | cons a r =>
   intro hc
   rcases List.mem_append.1 (show (10 : UInt8) ∈ a ++ r.flatMap fun b => 44 :: 32 :: b from hc) with hc | hc
   ·exact (act_word (h5 a (List.mem_cons_self ..))).2.2 hc
   ·exact hj r (fun b hb => h5 b (List.mem_cons_of_mem _ hb)) hc
 unfold ruleT
 dsimp only
 intro hc
 rcases List.mem_append.1 hc with hc | hc
 ·exact absurd hc (by decide)
 rcases List.mem_append.1 hc with hc | hc
 ·exact name_no10 h1 hc
 rcases List.mem_append.1 hc with hc | hc
 ·exact absurd hc (by decide)
 rcases List.mem_append.1 hc with hc | hc
 ·exact text_no10 wh h3 hc
 rcases List.mem_append.1 hc with hc | hc
 ·exact absurd hc (by decide)
 ·exact hja hc
theorem lines_print : ∀ (l : List Rl), (∀ x ∈ l, Fine x) → Ar.lines (printT l) = l.map ruleT ++ [[]]
 | [], _ => rfl
 | x :: r, h => by
  have ih := lines_print r (fun y hy => h y (List.mem_cons_of_mem _ hy))
  have e : printT (x :: r) = ruleT x ++ 10 :: printT r := by unfold printT; rw [List.flatMap_cons, List.append_assoc]; rfl
  rw [e, Ar.lines_cons _ _ (rule_no10 (h x (List.mem_cons_self ..))), ih]
  rfl
theorem comment_rule (x : Rl) : commentP (ruleT x) = false := rfl
theorem parseL_rules : ∀ (l : List Rl) (i : Nat) (acc : List Rl), (∀ x ∈ l, Fine x) → parseL i acc (l.map ruleT ++ [[]]) = (acc ++ l, 0)
 | [], i, acc, _ => by rw [List.append_nil]; rfl
 | x :: r, i, acc, h => by
  have ih := parseL_rules r (i + 1) (acc ++ [x]) (fun y hy => h y (List.mem_cons_of_mem _ hy))
  rw [List.map_cons, List.cons_append, parseL, comment_rule, if_neg (by decide), lineP_rule (h x (List.mem_cons_self ..))]
  simp only
  rw [ih, List.append_assoc]
  rfl
theorem parse_print {l : List Rl} (h : checkE l = 0) (hs : (printT l).length ≤ 20000) : parseP (printT l) = (l, 0, 0) := by
 have hf : ∀ x ∈ l, Fine x := by
  unfold checkE at h
  split at h
  ·cases h
  ·exact rules_fine l [] h
 unfold parseP
 rw [if_neg (by omega), lines_print l hf, parseL_rules l 0 [] hf]
 rw [if_neg (by simp)]
 rw [List.nil_append, if_neg (fun e => e h)]
end Pr
