/- The texts Af, Ag, Al, Ad of this proof, one behind the other. -/
import Derived.Lib.Join
import Derived.Lib.Strings
import Derived.Test.YtacjhbbieeliaaaGreatDoorMab
set_option linter.unusedSimpArgs false
set_option maxHeartbeats 16000000
set_option maxRecDepth 100000
/- The text Af. -/
namespace Ar
def join (sep : Str) : List Str → Str
 | [] => []
 | [x] => x
 | x :: y :: r => x ++ sep ++ join sep (y :: r)
theorem join_lib (sep : Str) : ∀ xs : List Str, Go.Lib.join xs sep = join sep xs
 | [] => rfl
 | [x] => by rw [Go.Lib.join_one]; rfl
 | x :: y :: r => by
  have ih := join_lib sep (y :: r)
  rw [Go.Lib.join_cons] at ih ⊢
  rw [join, ← ih]
  simp [Go.Lib.joinTail]
theorem join_cons2 (sep x : Str) (r : List Str) (h : r ≠ []) : join sep (x :: r) = x ++ sep ++ join sep r := by
 cases r with
 | nil => exact absurd rfl h
 | cons y r => rfl
abbrev RS := Str × Bool
def eat (t : Str) (r : RS) : RS := if Go.Lib.hasPrefix r.1 t then (r.1.drop t.length, r.2) else (r.1, true)
def has (t : Str) (r : RS) : Bool × RS := if !r.2 && Go.Lib.hasPrefix r.1 t then (true, (r.1.drop t.length, r.2)) else (false, r)
def az (c : UInt8) : Bool := decide (97 ≤ c.toNat ∧ c.toNat ≤ 122)
def word (r : RS) : Str × RS := (r.1.takeWhile az, (r.1.dropWhile az, r.2))
def rnum (r : RS) : Int × RS := match Go.Lib.atoiAll (r.1.takeWhile numch) with
 | .ok n => (n, (r.1.dropWhile numch, r.2))
 | _ => (0, (r.1, true))
def rtext (r : RS) : Str × RS := match unquote r.1 with
 | some p => (p.1, (p.2, r.2))
 | none => ([], (r.1, true))
def rlistF {α : Type} (one : RS → α × RS) : Nat → RS → List α × RS
 | 0, r => ([], r)
 | n + 1, r => if (has [44] (one r).2).1 then ((one r).1 :: (rlistF one n (has [44] (one r).2).2).1, (rlistF one n (has [44] (one r).2).2).2) else ([(one r).1], (has [44] (one r).2).2)
def rusr (r : RS) : (Str × Int) × RS := (((rtext r).1, (rnum (eat [58] (rtext r).2)).1), (rnum (eat [58] (rtext r).2)).2)
def rknd (r : RS) : (Int × Int) × RS := (((rnum r).1, (rnum (eat [58] (rnum r).2)).1), (rnum (eat [58] (rnum r).2)).2)
inductive FV where
 | num (n : Int) | txt (s : Str) | flg (b : Bool) | nums (l : List Int) | txts (l : List Str) | usrs (l : List (Str × Int)) | knds (l : List (Int × Int))
inductive FK where
 | num | txt | flg | nums | txts | usrs | knds
def FV.kind : FV → FK
 | .num _ => .num | .txt _ => .txt | .flg _ => .flg | .nums _ => .nums | .txts _ => .txts | .usrs _ => .usrs | .knds _ => .knds
def FK.zero : FK → FV
 | .num => .num 0 | .txt => .txt [] | .flg => .flg false | .nums => .nums [] | .txts => .txts [] | .usrs => .usrs [] | .knds => .knds []
def usrT (p : Str × Int) : Str := quote p.1 ++ 58 :: itoa p.2
def kndT (p : Int × Int) : Str := itoa p.1 ++ 58 :: itoa p.2
def FV.text : FV → Str
 | .num n => if n = 0 then [] else itoa n
 | .txt s => if s = [] then [] else quote s
 | .flg _ => []
 | .nums l => join [44] (l.map itoa)
 | .txts l => join [44] (l.map quote)
 | .usrs l => join [44] (l.map usrT)
 | .knds l => join [44] (l.map kndT)
def item (name : Str) (v : FV) : Str := match v with
 | .flg b => if b then name else []
 | v => if v.text = [] then [] else name ++ 61 :: v.text
def readK : FK → RS → FV × RS
 | .num, r => (.num (rnum r).1, (rnum r).2)
 | .txt, r => (.txt (rtext r).1, (rtext r).2)
 | .flg, r => (.flg true, r)
 | .nums, r => (.nums (rlistF rnum (r.1.length + 1) r).1, (rlistF rnum (r.1.length + 1) r).2)
 | .txts, r => (.txts (rlistF rtext (r.1.length + 1) r).1, (rlistF rtext (r.1.length + 1) r).2)
 | .usrs, r => (.usrs (rlistF rusr (r.1.length + 1) r).1, (rlistF rusr (r.1.length + 1) r).2)
 | .knds, r => (.knds (rlistF rknd (r.1.length + 1) r).1, (rlistF rknd (r.1.length + 1) r).2)
def FV.Ok : FV → Prop
 | .num n => inInt n
 | .nums l => ∀ n ∈ l, inInt n
 | .usrs l => ∀ p ∈ l, inInt p.2
 | .knds l => ∀ p ∈ l, inInt p.1 ∧ inInt p.2
 | _ => True
theorem hasPrefix_app (t r : Str) : Go.Lib.hasPrefix (t ++ r) t = true := by unfold Go.Lib.hasPrefix; rw [List.isPrefixOf_iff_prefix]; exact List.prefix_append t r
theorem eat_ok (t r : Str) (b : Bool) : eat t (t ++ r, b) = (r, b) := by unfold eat; rw [if_pos (hasPrefix_app t r), List.drop_left]
theorem has_ok (t r : Str) : has t (t ++ r, false) = (true, (r, false)) := by unfold has; simp only [hasPrefix_app, Bool.not_false, Bool.and_self, if_true, List.drop_left]
theorem rnum_ok (n : Int) (t : Str) (b : Bool) (h : inInt n) (ht : Stop numch t) : rnum (itoa n ++ t, b) = (n, (t, b)) := by
 have hs := take_stop (itoa_numch n) ht
 unfold rnum
 simp only [hs.1, hs.2, atoi_itoa n h]
theorem rtext_ok (s t : Str) (b : Bool) : rtext (quote s ++ t, b) = (s, (t, b)) := by
 unfold rtext
 simp only [unquote_quote]
theorem rusr_ok (p : Str × Int) (t : Str) (b : Bool) (h : inInt p.2) (ht : Stop numch t) : rusr (usrT p ++ t, b) = (p, (t, b)) := by
 unfold rusr usrT
 have e : quote p.1 ++ 58 :: itoa p.2 ++ t = quote p.1 ++ ([58] ++ (itoa p.2 ++ t)) := by simp
 simp only [e, rtext_ok, eat_ok, rnum_ok _ _ _ h ht]
theorem rknd_ok (p : Int × Int) (t : Str) (b : Bool) (h : inInt p.1 ∧ inInt p.2) (ht : Stop numch t) : rknd (kndT p ++ t, b) = (p, (t, b)) := by
 unfold rknd kndT
 have e : itoa p.1 ++ 58 :: itoa p.2 ++ t = itoa p.1 ++ ([58] ++ (itoa p.2 ++ t)) := by simp
 have hs : Stop numch ([58] ++ (itoa p.2 ++ t)) := by intro c r h; injection h with h1 h2; subst h1; decide
 simp only [e, rnum_ok _ _ _ h.1 hs, eat_ok, rnum_ok _ _ _ h.2 ht]
theorem has_no (c : UInt8) (t : Str) (b : Bool) (h : ∀ d r, t = d :: r → d ≠ c) : has [c] (t, b) = (false, (t, b)) := by
 unfold has
 rw [if_neg]
 intro h2
 simp only [Bool.and_eq_true] at h2
 cases t with
 | nil => simp [Go.Lib.hasPrefix] at h2
 | cons d r =>
  have := h2.2
  simp [Go.Lib.hasPrefix] at this
  exact h d r rfl this.symm
theorem rlist_ok {α : Type} (one : RS → α × RS) (tx : α → Str) (t : Str) (ht : Stop (fun c => c == 44 || numch c) t) :
  ∀ (l : List α) (n : Nat), l ≠ [] → l.length ≤ n → (∀ x ∈ l, ∀ u, Stop numch u → one (tx x ++ u, false) = (x, (u, false))) → rlistF one n (join [44] (l.map tx) ++ t, false) = (l, (t, false))
 | [], _, h, _, _ => absurd rfl h
 | _ :: _, 0, _, h, _ => by simp at h
 | [x], n + 1, _, _, h => by
  have h1 := h x (by simp) t (fun c r e => by have := ht c r e; simp at this; exact this.2)
  have h2 : has [44] (t, false) = (false, (t, false)) := has_no 44 t false (fun d r e he => by have := ht d r e; simp at this; exact this.1 he)
  show rlistF one (n + 1) (tx x ++ t, false) = _
  unfold rlistF
  simp only [h1, h2, Bool.false_eq_true, if_false]
 | x :: y :: l, n + 1, _, hl, h => by
  have e : join [44] ((x :: y :: l).map tx) ++ t = tx x ++ ([44] ++ (join [44] ((y :: l).map tx) ++ t)) := by
   rw [List.map_cons, join_cons2 _ _ _ (by simp)]
   simp
  have hs : Stop numch ([44] ++ (join [44] ((y :: l).map tx) ++ t)) := by intro c r h; injection h with h1 h2; subst h1; decide
  have h1 := h x (by simp) _ hs
  have ih := rlist_ok one tx t ht (y :: l) n (by simp) (by simp at hl ⊢; omega) (fun z hz => h z (List.mem_cons_of_mem _ hz))
  rw [e]
  unfold rlistF
  simp only [h1, has_ok, if_true, ih]
theorem join_len {α : Type} (tx : α → Str) (h : ∀ x, tx x ≠ []) : ∀ l : List α, l.length ≤ (join [44] (l.map tx)).length
 | [] => by simp
 | [x] => by
  have := List.length_pos_iff.2 (h x)
  simp [join]
  omega
 | x :: y :: l => by
  have ih := join_len tx h (y :: l)
  have := List.length_pos_iff.2 (h x)
  rw [List.map_cons, join_cons2 _ _ _ (by simp)]
  simp only [List.length_append, List.length_cons, List.length_nil] at ih ⊢
  omega
theorem join_nil_iff {α : Type} (tx : α → Str) (h : ∀ x, tx x ≠ []) (l : List α) : join [44] (l.map tx) = [] ↔ l = [] := by
 constructor
 ·intro e
  have := join_len tx h l
  rw [e] at this
  exact List.eq_nil_of_length_eq_zero (by simpa using this)
 ·rintro rfl; rfl
theorem quote_ne (s : Str) : quote s ≠ [] := by simp [quote]
theorem usrT_ne (p : Str × Int) : usrT p ≠ [] := by simp [usrT, quote]
theorem kndT_ne (p : Int × Int) : kndT p ≠ [] := by simp [kndT]
def Blank (t : Str) : Prop := ∀ c r, t = c :: r → c = 32
theorem Blank.stop {t : Str} (h : Blank t) : Stop (fun c => c == 44 || numch c) t := by intro c r e; rw [h c r e]; decide
theorem Blank.num {t : Str} (h : Blank t) : Stop numch t := by intro c r e; rw [h c r e]; decide
theorem Blank.az {t : Str} (h : Blank t) : Stop az t := by intro c r e; rw [h c r e]; decide
theorem readK_ok (v : FV) (t : Str) (hv : v.Ok) (hz : v.text ≠ []) (ht : Blank t) : readK v.kind (v.text ++ t, false) = (v, (t, false)) := by
 cases v with
 | num n =>
  have hn : n ≠ 0 := by intro e; subst e; exact hz rfl
  have e : FV.text (.num n) = itoa n := if_neg hn
  rw [e]
  show (FV.num (rnum _).1, (rnum _).2) = _
  rw [rnum_ok n t false hv ht.num]
 | txt s =>
  have hn : s ≠ [] := by intro e; subst e; exact hz rfl
  have e : FV.text (.txt s) = quote s := if_neg hn
  rw [e]
  show (FV.txt (rtext _).1, (rtext _).2) = _
  rw [rtext_ok]
 | flg b => exact absurd rfl hz
 | nums l =>
  have hn : l ≠ [] := by intro e; subst e; exact hz rfl
  have := join_len itoa itoa_ne l
  show (FV.nums (rlistF rnum ((join [44] (l.map itoa) ++ t).length + 1) (join [44] (l.map itoa) ++ t, false)).1, (rlistF rnum ((join [44] (l.map itoa) ++ t).length + 1) (join [44] (l.map itoa) ++ t, false)).2) = _
  rw [rlist_ok rnum itoa t ht.stop l _ hn (by rw [List.length_append]; omega) (fun x hx u hu => rnum_ok x u false (hv x hx) hu)]
 | txts l =>
  have hn : l ≠ [] := by intro e; subst e; exact hz rfl
  have := join_len quote quote_ne l
  show (FV.txts (rlistF rtext ((join [44] (l.map quote) ++ t).length + 1) (join [44] (l.map quote) ++ t, false)).1, (rlistF rtext ((join [44] (l.map quote) ++ t).length + 1) (join [44] (l.map quote) ++ t, false)).2) = _
  rw [rlist_ok rtext quote t ht.stop l _ hn (by rw [List.length_append]; omega) (fun x _ u _ => rtext_ok x u false)]
 | usrs l =>
  have hn : l ≠ [] := by intro e; subst e; exact hz rfl
  have := join_len usrT usrT_ne l
  show (FV.usrs (rlistF rusr ((join [44] (l.map usrT) ++ t).length + 1) (join [44] (l.map usrT) ++ t, false)).1, (rlistF rusr ((join [44] (l.map usrT) ++ t).length + 1) (join [44] (l.map usrT) ++ t, false)).2) = _
  rw [rlist_ok rusr usrT t ht.stop l _ hn (by rw [List.length_append]; omega) (fun x hx u hu => rusr_ok x u false (hv x hx) hu)]
 | knds l =>
  have hn : l ≠ [] := by intro e; subst e; exact hz rfl
  have := join_len kndT kndT_ne l
  show (FV.knds (rlistF rknd ((join [44] (l.map kndT) ++ t).length + 1) (join [44] (l.map kndT) ++ t, false)).1, (rlistF rknd ((join [44] (l.map kndT) ++ t).length + 1) (join [44] (l.map kndT) ++ t, false)).2) = _
  rw [rlist_ok rknd kndT t ht.stop l _ hn (by rw [List.length_append]; omega) (fun x hx u hu => rknd_ok x u false (hv x hx) hu)]
end Ar
/- The text Ag. -/
namespace Ar
def NK : List (Str × FK) := [([105, 100], .num), ([114, 111, 111, 109], .txt), ([115, 101, 110, 100, 101, 114], .txt), ([107, 105, 110, 100], .num), ([115, 116, 97, 116, 101], .flg), ([107, 101, 121], .txt), ([116, 105, 109, 101], .num), ([100, 101, 112, 116, 104], .num), ([112, 114, 101, 118], .nums), ([97, 117, 116, 104], .nums), ([116, 101, 120, 116], .txt), ([110], .num), ([116, 97, 114, 103, 101, 116], .num), ([116, 104, 114, 101, 97, 100], .flg), ([118, 105, 97], .txt), ([97, 108, 108, 111, 119], .txts), ([100, 101, 110, 121], .txts), ([117, 115, 101, 114, 115], .usrs), ([107, 105, 110, 100, 115], .knds), ([117, 115, 101, 114], .num), ([109, 101, 115, 115, 97, 103, 101], .num), ([115, 116, 97, 116, 101, 115], .num), ([105, 110, 118, 105, 116, 101], .num), ([107, 105, 99, 107], .num), ([98, 97, 110], .num), ([114, 101, 100, 97, 99, 116], .num), ([104, 97, 115, 104], .num), ([115, 101, 114, 118, 101, 114], .txt), ([115, 117, 109], .num)]
def items (q : List (Str × FK)) (b : List FV) : List Str := (List.zipWith (fun nk v => item nk.1 v) q b).filter (fun x => decide (x ≠ []))
def restL (q : List (Str × FK)) (b : List FV) : Str := join [32] (items q b)
def line (e : List FV) : Str := restL NK e
def zeros (q : List (Str × FK)) : List FV := q.map fun p => p.2.zero
def Fits (q : List (Str × FK)) (b : List FV) : Prop := b.length = q.length ∧ ∀ (i : Nat) (nk : Str × FK) (v : FV), q[i]? = some nk → b[i]? = some v → v.kind = nk.2 ∧ v.Ok
def isFlg : FK → Bool
  | .flg => true
  | _ => false
def loopF : Nat → List FV → RS → Option (List FV × RS)
  | 0, _, _ => none
  | n + 1, e, r => if r.1 = [] ∨ r.2 = true then some (e, r) else
    match NK.findIdx? (fun p => decide (p.1 = (word r).1)) with
    | none => none
    | some i =>
      let k := ((NK[i]?).map (·.2)).getD .num
      let r2 := if isFlg k then (word r).2 else eat [61] (word r).2
      let p := if r2.2 then (e, r2) else (e.set i (readK k r2).1, (readK k r2).2)
      loopF n p.1 (if p.2.1 = [] then p.2 else eat [32] p.2)
def parse (s : Str) : Option (List FV) := match loopF (s.length + 1) (zeros NK) (s, false) with
  | none => none
  | some p => if p.2.2 = true ∨ line p.1 ≠ s then none else some p.1
theorem NK_nodup : (NK.map (·.1)).Nodup := by decide
theorem NK_az : ∀ p ∈ NK, p.1 ≠ [] ∧ ∀ c ∈ p.1, az c = true := by decide
theorem find_mid (p : List (Str × FK)) (nm : Str) (k : FK) (q : List (Str × FK)) (h : ((p ++ (nm, k) :: q).map (·.1)).Nodup) : (p ++ (nm, k) :: q).findIdx? (fun x => decide (x.1 = nm)) = some p.length := by
  induction p with
  | nil => simp [List.findIdx?_cons]
  | cons a p ih =>
    rw [List.cons_append, List.map_cons, List.nodup_cons] at h
    have hne : ¬ a.1 = nm := by
      intro e
      exact h.1 (by rw [e]; simp)
    rw [List.cons_append, List.findIdx?_cons, ih h.2]
    simp [hne]
theorem text_zero {v : FV} (hf : isFlg v.kind = false) (h : v.text = []) : v = v.kind.zero := by
  cases v with
  | num n => by_cases e : n = 0
             · subst e; rfl
             · have : FV.text (.num n) = itoa n := if_neg e
               rw [this] at h; exact absurd h (itoa_ne n)
  | txt s => by_cases e : s = []
             · subst e; rfl
             · have : FV.text (.txt s) = quote s := if_neg e
               rw [this] at h; exact absurd h (quote_ne s)
  | flg b => cases hf
  | nums l => rw [(join_nil_iff itoa itoa_ne l).1 h]; rfl
  | txts l => rw [(join_nil_iff quote quote_ne l).1 h]; rfl
  | usrs l => rw [(join_nil_iff usrT usrT_ne l).1 h]; rfl
  | knds l => rw [(join_nil_iff kndT kndT_ne l).1 h]; rfl
theorem item_other (nm : Str) {v : FV} (h : isFlg v.kind = false) : item nm v = if v.text = [] then [] else nm ++ 61 :: v.text := by
  cases v <;> first | rfl | cases h
theorem item_zero {nm : Str} {v : FV} (hn : nm ≠ []) (h : item nm v = []) : v = v.kind.zero := by
  cases hf : isFlg v.kind with
  | true =>
    cases v with
    | flg b => cases b with
      | false => rfl
      | true => exact absurd h hn
    | _ => cases hf
  | false =>
    rw [item_other nm hf] at h
    split at h
    · exact text_zero hf ‹_›
    · simp at h
theorem items_cons (nm : Str) (k : FK) (q : List (Str × FK)) (v : FV) (b : List FV) : items ((nm, k) :: q) (v :: b) = if item nm v = [] then items q b else item nm v :: items q b := by
  unfold items
  rw [List.zipWith_cons_cons, List.filter_cons]
  by_cases h : item nm v = [] <;> simp [h]
theorem items_ne (q : List (Str × FK)) (b : List FV) : ∀ x ∈ items q b, x ≠ [] := by
  intro x hx
  unfold items at hx
  have := (List.mem_filter.1 hx).2
  simpa using this
theorem restL_nil (q : List (Str × FK)) (b : List FV) : restL q b = [] ↔ items q b = [] := by
  unfold restL
  cases h : items q b with
  | nil => simp [join]
  | cons x r =>
    have hx := items_ne q b x (by rw [h]; simp)
    cases r with
    | nil => simp [join, hx]
    | cons y r => simp [join, hx]
def tailOf (t : Str) : Str := if t = [] then [] else 32 :: t
theorem restL_cons (nm : Str) (k : FK) (q : List (Str × FK)) (v : FV) (b : List FV) (h : item nm v ≠ []) : restL ((nm, k) :: q) (v :: b) = item nm v ++ tailOf (restL q b) := by
  have e := restL_nil q b
  unfold restL tailOf at *
  rw [items_cons, if_neg h]
  by_cases h2 : items q b = []
  · rw [if_pos (e.2 h2), h2]
    simp [join]
  · rw [if_neg (fun h3 => h2 (e.1 h3)), join_cons2 _ _ _ h2]
    simp
theorem tailOf_blank (t : Str) : Blank (tailOf t) := by
  intro c r h
  unfold tailOf at h
  split at h
  · cases h
  · injection h with h1 _; exact h1.symm
theorem loopF_ok : ∀ (q : List (Str × FK)) (p : List (Str × FK)) (a b : List FV) (n : Nat), NK = p ++ q → a.length = p.length → Fits q b → (items q b).length < n →
    loopF n (a ++ zeros q) (restL q b, false) = some (a ++ b, ([], false))
  | [], p, a, b, n, _, _, hf, hn => by
    have : b = [] := List.eq_nil_of_length_eq_zero hf.1
    subst this
    cases n with
    | zero => simp at hn
    | succ n =>
      unfold loopF
      rw [if_pos (show (restL [] [], false).1 = [] ∨ _ from Or.inl rfl)]
      rfl
  | (nm, k) :: q, p, a, [], n, _, _, hf, _ => by have := hf.1; simp at this
  | (nm, k) :: q, p, a, v :: b, 0, _, _, _, hn => by simp at hn
  | (nm, k) :: q, p, a, v :: b, n + 1, hNK, ha, hf, hn => by
    have hmem : (nm, k) ∈ NK := by rw [hNK]; simp
    have hnm := NK_az _ hmem
    have hv := hf.2 0 (nm, k) v rfl rfl
    have hf' : Fits q b := ⟨by have := hf.1; simpa using this, fun i nk v h1 h2 => hf.2 (i + 1) nk v h1 h2⟩
    have hNK' : NK = (p ++ [(nm, k)]) ++ q := by rw [hNK]; simp
    by_cases hi : item nm v = []
    · have hz := item_zero hnm.1 hi
      have e1 : restL ((nm, k) :: q) (v :: b) = restL q b := by unfold restL; rw [items_cons, if_pos hi]
      have e2 : a ++ zeros ((nm, k) :: q) = (a ++ [v]) ++ zeros q := by
        rw [hz, hv.1]; simp [zeros]
      rw [items_cons, if_pos hi] at hn
      rw [e1, e2, loopF_ok q (p ++ [(nm, k)]) (a ++ [v]) b (n + 1) hNK' (by simp [ha]) hf' hn]
      simp
    · rw [restL_cons nm k q v b hi]
      have hb := tailOf_blank (restL q b)
      have hfind : NK.findIdx? (fun x => decide (x.1 = nm)) = some p.length := by rw [hNK]; exact find_mid p nm k q (by rw [← hNK]; exact NK_nodup)
      have hk : ((NK[p.length]?).map (·.2)).getD .num = k := by rw [hNK]; simp
      have hset : (a ++ zeros ((nm, k) :: q)).set p.length v = (a ++ [v]) ++ zeros q := by
        rw [← ha, List.set_append_right _ _ (Nat.le_refl _), Nat.sub_self]
        simp [zeros]
      have hne : item nm v ++ tailOf (restL q b) ≠ [] := by simp [hi]
      rw [items_cons, if_neg hi, List.length_cons] at hn
      have ih := loopF_ok q (p ++ [(nm, k)]) (a ++ [v]) b n hNK' (by simp [ha]) hf' (by omega)
      have hlast : (if tailOf (restL q b) = [] then ((tailOf (restL q b), false) : RS) else eat [32] (tailOf (restL q b), false)) = (restL q b, false) := by
        unfold tailOf
        by_cases h0 : restL q b = []
        · rw [if_pos h0, if_pos rfl, h0]
        · rw [if_neg h0, if_neg (by simp)]
          exact eat_ok [32] (restL q b) false
      unfold loopF
      rw [if_neg (by simp only [Bool.false_eq_true, or_false]; exact hne)]
      cases hfl : isFlg k with
      | true =>
        have hvt : v = .flg true := by
          have := hv.1
          cases v with
          | flg b => cases b with
            | true => rfl
            | false => exact absurd rfl hi
          | _ => (simp only [FV.kind] at this; subst this; cases hfl)
        have hki : k = .flg := by cases k <;> first | rfl | cases hfl
        have hit : item nm v = nm := by rw [hvt]; rfl
        have hw : word (item nm v ++ tailOf (restL q b), false) = (nm, (tailOf (restL q b), false)) := by
          rw [hit]
          have := take_stop hnm.2 hb.az
          unfold word
          simp only [this.1, this.2]
        rw [hw]
        simp only [hfind, hk, hfl, if_true, Bool.false_eq_true, if_false]
        have hrd : readK k (tailOf (restL q b), false) = (v, (tailOf (restL q b), false)) := by rw [hki, hvt]; rfl
        simp only [hrd, hset, hlast, ih]
        simp
      | false =>
        have hkf : isFlg v.kind = false := by rw [hv.1]; exact hfl
        have hvt : v.text ≠ [] := by
          intro e
          rw [item_other nm hkf, if_pos e] at hi
          exact hi rfl
        have hit : item nm v ++ tailOf (restL q b) = nm ++ ([61] ++ (v.text ++ tailOf (restL q b))) := by rw [item_other nm hkf, if_neg hvt]; simp
        have hs : Stop az ([61] ++ (v.text ++ tailOf (restL q b))) := by intro c r h; injection h with h1 h2; subst h1; decide
        have hw : word (item nm v ++ tailOf (restL q b), false) = (nm, ([61] ++ (v.text ++ tailOf (restL q b)), false)) := by
          rw [hit]
          have := take_stop hnm.2 hs
          unfold word
          simp only [this.1, this.2]
        rw [hw]
        simp only [hfind, hk, hfl, Bool.false_eq_true, if_false, eat_ok]
        have hrd : readK k (v.text ++ tailOf (restL q b), false) = (v, (tailOf (restL q b), false)) := by
          have hk2 : v.kind = k := hv.1
          rw [← hk2]
          exact readK_ok v _ hv.2 hvt hb
        simp only [hrd, hset, hlast, ih]
        simp
theorem items_len : ∀ (q : List (Str × FK)) (b : List FV), (items q b).length ≤ (restL q b).length := by
  intro q b
  unfold restL
  have hne := items_ne q b
  generalize items q b = l at *
  induction l with
  | nil => simp
  | cons x r ih =>
    have hx := List.length_pos_iff.2 (hne x (by simp))
    cases r with
    | nil =>
      simp [join]
      omega
    | cons y r =>
      have := ih (fun z hz => hne z (List.mem_cons_of_mem _ hz))
      rw [join_cons2 _ _ _ (by simp)]
      simp only [List.length_append, List.length_cons, List.length_nil] at this ⊢
      omega
theorem parse_line (e : List FV) (h : Fits NK e) : parse (line e) = some e := by
  unfold parse
  have h1 := loopF_ok NK [] [] e ((line e).length + 1) rfl rfl h (by have := items_len NK e; unfold line; omega)
  rw [List.nil_append, List.nil_append] at h1
  rw [show loopF ((line e).length + 1) (zeros NK) (line e, false) = some (e, ([], false)) from h1]
  simp
theorem parse_some {s : Str} {e : List FV} (h : parse s = some e) : line e = s := by
  unfold parse at h
  split at h
  · cases h
  · split at h
    · cases h
    · rename_i hn
      injection h with h
      subst h
      exact Decidable.byContradiction fun h2 => hn (.inr h2)
theorem line_inj {e f : List FV} (he : Fits NK e) (hf : Fits NK f) (h : line e = line f) : e = f := by
  have h1 := parse_line e he
  rw [h, parse_line f hf] at h1
  injection h1 with h1
  exact h1.symm
theorem eat_len (t : Str) (r : RS) : (eat t r).1.length ≤ r.1.length := by
  unfold eat
  split
  · simp
  · exact Nat.le_refl _
theorem has_len (t : Str) (r : RS) : (has t r).2.1.length ≤ r.1.length ∧ ((has t r).1 = true → (has t r).2.1.length + t.length = r.1.length ∧ r.2 = false) := by
  unfold has
  split
  · rename_i h
    simp only [Bool.and_eq_true, Bool.not_eq_true'] at h
    have hp : t <+: r.1 := by have := h.2; unfold Go.Lib.hasPrefix at this; exact List.isPrefixOf_iff_prefix.1 this
    have := hp.length_le
    simp only [List.length_drop]
    exact ⟨by omega, fun _ => ⟨by omega, h.1⟩⟩
  · exact ⟨Nat.le_refl _, fun h => by cases h⟩
theorem drop_len (p : UInt8 → Bool) (l : Str) : (l.dropWhile p).length ≤ l.length := (List.dropWhile_sublist p).length_le
theorem rnum_len (r : RS) : (rnum r).2.1.length ≤ r.1.length := by
  unfold rnum
  split
  · exact drop_len _ _
  · exact Nat.le_refl _
theorem unquote_len {l o q : Str} (h : unquote l = some (o, q)) : q.length < l.length := by
  rw [unquote_inv h]
  unfold quote
  simp
  omega
theorem rtext_len (r : RS) : (rtext r).2.1.length ≤ r.1.length := by
  unfold rtext
  split
  · rename_i p h
    have := unquote_len (o := p.1) (q := p.2) h
    simp only
    omega
  · exact Nat.le_refl _
theorem rlistF_len {α : Type} (one : RS → α × RS) (h1 : ∀ r, (one r).2.1.length ≤ r.1.length) : ∀ (n : Nat) (r : RS), (rlistF one n r).2.1.length ≤ r.1.length
  | 0, r => Nat.le_refl _
  | n + 1, r => by
    have h2 := h1 r
    have h3 := (has_len [44] (one r).2).1
    unfold rlistF
    split
    · have := rlistF_len one h1 n (has [44] (one r).2).2
      simp only
      omega
    · simp only
      omega
theorem rlistF_enough {α : Type} (one : RS → α × RS) (h1 : ∀ r, (one r).2.1.length ≤ r.1.length) : ∀ (n m : Nat) (r : RS), r.1.length < n → r.1.length < m → rlistF one n r = rlistF one m r
  | 0, _, _, h, _ => by omega
  | _ + 1, 0, _, _, h => by omega
  | n + 1, m + 1, r, hn, hm => by
    have h2 := h1 r
    unfold rlistF
    split
    · rename_i h
      have h3 := (has_len [44] (one r).2).2 h
      simp only [List.length_cons, List.length_nil] at h3
      rw [rlistF_enough one h1 n m _ (by omega) (by omega)]
    · rfl
theorem rusr_len (r : RS) : (rusr r).2.1.length ≤ r.1.length := by
  have h1 := rtext_len r
  have h2 := eat_len [58] (rtext r).2
  have h3 := rnum_len (eat [58] (rtext r).2)
  show (rnum (eat [58] (rtext r).2)).2.1.length ≤ _
  omega
theorem rknd_len (r : RS) : (rknd r).2.1.length ≤ r.1.length := by
  have h1 := rnum_len r
  have h2 := eat_len [58] (rnum r).2
  have h3 := rnum_len (eat [58] (rnum r).2)
  show (rnum (eat [58] (rnum r).2)).2.1.length ≤ _
  omega
theorem readK_len (k : FK) (r : RS) : (readK k r).2.1.length ≤ r.1.length := by
  cases k with
  | num => exact rnum_len r
  | txt => exact rtext_len r
  | flg => exact Nat.le_refl _
  | nums => exact rlistF_len _ rnum_len _ r
  | txts => exact rlistF_len _ rtext_len _ r
  | usrs => exact rlistF_len _ rusr_len _ r
  | knds => exact rlistF_len _ rknd_len _ r
theorem word_len (r : RS) : (word r).1.length + (word r).2.1.length = r.1.length := by
  show (r.1.takeWhile az).length + (r.1.dropWhile az).length = _
  rw [← List.length_append, List.takeWhile_append_dropWhile]
theorem find_name {w : Str} {i : Nat} (h : NK.findIdx? (fun p => decide (p.1 = w)) = some i) : w ≠ [] ∧ i < 29 := by
  obtain ⟨hi, h1, _⟩ := List.findIdx?_eq_some_iff_getElem.1 h
  have h2 := of_decide_eq_true h1
  have h3 := NK_az NK[i] (List.getElem_mem hi)
  rw [h2] at h3
  exact ⟨h3.1, hi⟩
def round1 (i : Nat) (e : List FV) (r : RS) : List FV × RS :=
  let k := ((NK[i]?).map (·.2)).getD .num
  let r2 := if isFlg k then (word r).2 else eat [61] (word r).2
  let p := if r2.2 then (e, r2) else (e.set i (readK k r2).1, (readK k r2).2)
  (p.1, if p.2.1 = [] then p.2 else eat [32] p.2)
theorem round1_len {i : Nat} {e : List FV} {r : RS} (h : (word r).1 ≠ []) : (round1 i e r).2.1.length < r.1.length := by
  have h1 := word_len r
  have h2 := List.length_pos_iff.2 h
  have h3 : (if isFlg (((NK[i]?).map (·.2)).getD .num) then (word r).2 else eat [61] (word r).2).1.length ≤ (word r).2.1.length := by
    split
    · exact Nat.le_refl _
    · exact eat_len _ _
  unfold round1
  simp only
  generalize (if isFlg (((NK[i]?).map (·.2)).getD .num) then (word r).2 else eat [61] (word r).2) = r2 at *
  have h4 := readK_len (((NK[i]?).map (·.2)).getD .num) r2
  generalize ((NK[i]?).map (·.2)).getD .num = k at *
  have h5 : (if r2.2 then (e, r2) else (e.set i (readK k r2).1, (readK k r2).2)).2.1.length ≤ r2.1.length := by
    split
    · exact Nat.le_refl _
    · exact h4
  generalize (if r2.2 then (e, r2) else (e.set i (readK k r2).1, (readK k r2).2)) = p at *
  have h6 : (if p.2.1 = [] then p.2 else eat [32] p.2).1.length ≤ p.2.1.length := by
    split
    · exact Nat.le_refl _
    · exact eat_len _ _
  omega
theorem loopF_step (n : Nat) (e : List FV) (r : RS) : loopF (n + 1) e r = if r.1 = [] ∨ r.2 = true then some (e, r) else
    match NK.findIdx? (fun p => decide (p.1 = (word r).1)) with
    | none => none
    | some i => loopF n (round1 i e r).1 (round1 i e r).2 := rfl
theorem loopF_enough : ∀ (n m : Nat) (e : List FV) (r : RS), r.1.length < n → r.1.length < m → loopF n e r = loopF m e r
  | 0, _, _, _, h, _ => by omega
  | _ + 1, 0, _, _, _, h => by omega
  | n + 1, m + 1, e, r, hn, hm => by
    rw [loopF_step, loopF_step]
    split
    · rfl
    · split
      · rfl
      · rename_i i hi
        have := round1_len (i := i) (e := e) (find_name hi).1
        exact loopF_enough n m _ _ (by omega) (by omega)
def loopG (e : List FV) (r : RS) : Option (List FV × RS) := loopF (r.1.length + 1) e r
theorem loopG_end {e : List FV} {r : RS} (h : r.1 = [] ∨ r.2 = true) : loopG e r = some (e, r) := by unfold loopG; rw [loopF_step, if_pos h]
theorem loopG_none {e : List FV} {r : RS} (h : ¬ (r.1 = [] ∨ r.2 = true)) (h2 : NK.findIdx? (fun p => decide (p.1 = (word r).1)) = none) : loopG e r = none := by unfold loopG; rw [loopF_step, if_neg h, h2]
theorem loopG_round {e : List FV} {r : RS} {i : Nat} (h : ¬ (r.1 = [] ∨ r.2 = true)) (h2 : NK.findIdx? (fun p => decide (p.1 = (word r).1)) = some i) : loopG e r = loopG (round1 i e r).1 (round1 i e r).2 := by
  have h3 := round1_len (i := i) (e := e) (find_name h2).1
  unfold loopG
  rw [loopF_step, if_neg h, h2]
  exact loopF_enough _ _ _ _ (by omega) (by omega)
end Ar
/- The text Al. -/
namespace Ar
def lines : Str → List Str
 | [] => [[]]
 | c :: s => if c = 10 then [] :: lines s else match lines s with
  | l :: r => (c :: l) :: r
  | [] => [[c]]
theorem lines_ne : ∀ s : Str, lines s ≠ []
 | [] => by simp [lines]
 | c :: s => by
  unfold lines
  split
  ·simp
  ·split <;> simp
def unlines : List Str → Str
 | [] => []
 | [l] => l
 | l :: m :: r => l ++ 10 :: unlines (m :: r)
theorem unlines_lines : ∀ s : Str, unlines (lines s) = s
 | [] => rfl
 | c :: s => by
  have ih := unlines_lines s
  have hne := lines_ne s
  unfold lines
  split
  ·rename_i h
   cases hl : lines s with
   | nil => exact absurd hl hne
   | cons l r =>
    rw [hl] at ih
    show [] ++ 10 :: unlines (l :: r) = _
    rw [ih, h]
    rfl
  ·cases hl : lines s with
   | nil => exact absurd hl hne
   | cons l r =>
    rw [hl] at ih
    cases r with
    | nil =>
     have ih' : l = s := ih
     show c :: l = _
     rw [ih']
    | cons m r =>
     show (c :: l) ++ 10 :: unlines (m :: r) = c :: s
     have ih' : l ++ 10 :: unlines (m :: r) = s := ih
     rw [← ih']
     rfl
theorem lines_noLF : ∀ (s : Str), ∀ l ∈ lines s, (10 : UInt8) ∉ l
 | [], l, h => by simp [lines] at h; subst h; simp
 | c :: s, l, h => by
  have ih := lines_noLF s
  unfold lines at h
  split at h
  ·simp only [List.mem_cons] at h
   rcases h with rfl | h
   ·simp
   ·exact ih l h
  ·rename_i hc
   cases hl : lines s with
   | nil => rw [hl] at h; simp at h; subst h; simp; exact fun e => hc e.symm
   | cons m r =>
    rw [hl] at h ih
    simp only [List.mem_cons] at h
    rcases h with rfl | h
    ·have := ih m (by simp)
     simp only [List.mem_cons, not_or]
     exact ⟨fun e => hc e.symm, this⟩
    ·exact ih l (by simp [h])
theorem lines_of_noLF : ∀ (s : Str), (10 : UInt8) ∉ s → lines s = [s]
 | [], _ => rfl
 | c :: s, h => by
  simp only [List.mem_cons, not_or] at h
  unfold lines
  rw [if_neg (fun e => h.1 e.symm), lines_of_noLF s h.2]
theorem lines_cons : ∀ (l : Str) (s : Str), (10 : UInt8) ∉ l → lines (l ++ 10 :: s) = l :: lines s
 | [], s, _ => by simp [lines]
 | c :: l, s, h => by
  simp only [List.mem_cons, not_or] at h
  show lines (c :: (l ++ 10 :: s)) = _
  rw [lines, if_neg (fun e => h.1 e.symm), lines_cons l s h.2]
theorem lines_unlines : ∀ L : List Str, L ≠ [] → (∀ l ∈ L, (10 : UInt8) ∉ l) → lines (unlines L) = L
 | [], h, _ => absurd rfl h
 | [l], _, h => lines_of_noLF l (h l (by simp))
 | l :: m :: r, _, h => by
  show lines (l ++ 10 :: unlines (m :: r)) = _
  rw [lines_cons _ _ (h l (by simp)), lines_unlines (m :: r) (by simp) (fun x hx => h x (List.mem_cons_of_mem _ hx))]
theorem lines_len : ∀ s : Str, (lines s).length ≤ s.length + 1
 | [] => by simp [lines]
 | c :: s => by
  have ih := lines_len s
  unfold lines
  split
  ·simp; omega
  ·cases hl : lines s with
   | nil => simp
   | cons l r => rw [hl] at ih; simp at ih ⊢; omega
theorem lines_short : ∀ s : Str, ∀ l ∈ lines s, l.length ≤ s.length
 | [], l, h => by simp [lines] at h; subst h; simp
 | c :: s, l, h => by
  have ih := lines_short s
  unfold lines at h
  split at h
  ·simp only [List.mem_cons] at h
   rcases h with rfl | h
   ·simp
   ·have := ih l h; simp; omega
  ·cases hl : lines s with
   | nil => rw [hl] at h; simp at h; subst h; simp
   | cons m r =>
    rw [hl] at h ih
    simp only [List.mem_cons] at h
    rcases h with rfl | h
    ·have := ih m (by simp); simp; omega
    ·have := ih l (by simp [h]); simp; omega
def dis : List Str → List Str → Nat
 | [], y => y.length
 | a :: x, [] => (a :: x).length
 | a :: x, b :: y => if a = b then dis x y else 1 + min (dis x (b :: y)) (dis (a :: x) y)
termination_by x y => x.length + y.length
theorem dis_nil (y : List Str) : dis [] y = y.length := by unfold dis; rfl
theorem dis_nil2 (x : List Str) : dis x [] = x.length := by cases x <;> (unfold dis; rfl)
theorem dis_eq (a : Str) (x y : List Str) : dis (a :: x) (a :: y) = dis x y := by rw [dis, if_pos rfl]
theorem dis_ne {a b : Str} (x y : List Str) (h : a ≠ b) : dis (a :: x) (b :: y) = 1 + min (dis x (b :: y)) (dis (a :: x) y) := by rw [dis, if_neg h]
theorem dis_comm : ∀ (n : Nat) (x y : List Str), x.length + y.length ≤ n → dis x y = dis y x
 | n, [], y, _ => by rw [dis_nil, dis_nil2]
 | n, a :: x, [], _ => by rw [dis_nil, dis_nil2]
 | 0, a :: x, b :: y, h => by simp at h
 | n + 1, a :: x, b :: y, h => by
  simp only [List.length_cons] at h
  by_cases e : a = b
  ·subst e; rw [dis_eq, dis_eq, dis_comm n x y (by omega)]
  ·rw [dis_ne _ _ e, dis_ne _ _ (fun e2 => e e2.symm), dis_comm n x (b :: y) (by simp only [List.length_cons]; omega), dis_comm n (a :: x) y (by simp only [List.length_cons]; omega), Nat.min_comm]
theorem dis_near : ∀ (n : Nat) (x y : List Str) (b : Str), x.length + y.length ≤ n → dis x (b :: y) ≤ dis x y + 1 ∧ dis x y ≤ dis x (b :: y) + 1
 | n, [], y, b, _ => by rw [dis_nil, dis_nil, List.length_cons]; omega
 | 0, a :: x, y, b, h => by simp at h
 | n + 1, a :: x, y, b, h => by
  simp only [List.length_cons] at h
  have h1 := dis_near n y x a (by omega)
  rw [dis_comm _ y (a :: x) (Nat.le_refl _), dis_comm _ y x (Nat.le_refl _)] at h1
  by_cases e : a = b
  ·subst e
   rw [dis_eq]
   omega
  ·have h2 := dis_near n x y b (by omega)
   rw [dis_ne _ _ e]
   omega
theorem dis_add (x y : List Str) (b : Str) : dis x (b :: y) ≤ dis x y + 1 := (dis_near _ x y b (Nat.le_refl _)).1
theorem dis_del (x y : List Str) (a : Str) : dis (a :: x) y ≤ dis x y + 1 := by
 rw [dis_comm _ _ _ (Nat.le_refl _), dis_comm _ x y (Nat.le_refl _)]
 exact dis_add y x a
theorem dis_keep (p x y : List Str) : dis (p ++ x) (p ++ y) = dis x y := by
 induction p with
 | nil => rfl
 | cons a p ih => rw [List.cons_append, List.cons_append, dis_eq, ih]
theorem dis_self (x : List Str) : dis x x = 0 := by
 have := dis_keep x [] []
 simpa [dis_nil] using this
def best : List Str → List Str → Nat
 | [], _ => 0
 | _ :: _, [] => 0
 | a :: x, b :: y => if a = b then best x y + 1 else max (best x (b :: y)) (best (a :: x) y)
termination_by x y => x.length + y.length
theorem best_nil (y : List Str) : best [] y = 0 := by unfold best; rfl
theorem best_nil2 (x : List Str) : best x [] = 0 := by cases x <;> (unfold best; rfl)
theorem best_eq (a : Str) (x y : List Str) : best (a :: x) (a :: y) = best x y + 1 := by rw [best, if_pos rfl]
theorem best_ne {a b : Str} (x y : List Str) (h : a ≠ b) : best (a :: x) (b :: y) = max (best x (b :: y)) (best (a :: x) y) := by rw [best, if_neg h]
theorem dis_best : ∀ (n : Nat) (x y : List Str), x.length + y.length ≤ n → dis x y + 2 * best x y = x.length + y.length
 | n, [], y, _ => by rw [dis_nil, best_nil]; simp
 | n, a :: x, [], _ => by rw [dis_nil2, best_nil2]; simp
 | 0, a :: x, b :: y, h => by simp at h
 | n + 1, a :: x, b :: y, h => by
  simp only [List.length_cons] at h ⊢
  by_cases e : a = b
  ·subst e
   have := dis_best n x y (by omega)
   rw [dis_eq, best_eq]
   omega
  ·have h1 := dis_best n x (b :: y) (by simp only [List.length_cons]; omega)
   have h2 := dis_best n (a :: x) y (by simp only [List.length_cons]; omega)
   simp only [List.length_cons] at h1 h2
   rw [dis_ne _ _ e, best_ne _ _ e]
   omega
theorem way_same {a b : Str} (x y : List Str) (h : a ≠ b) : dis x (b :: y) + 1 = dis (a :: x) (b :: y) ↔ best (a :: x) y ≤ best x (b :: y) := by
 have h1 := dis_best _ x (b :: y) (Nat.le_refl _)
 have h2 := dis_best _ (a :: x) y (Nat.le_refl _)
 simp only [List.length_cons] at h1 h2
 rw [dis_ne _ _ h]
 omega
theorem dis_le (x y : List Str) : dis x y ≤ x.length + y.length := by have := dis_best _ x y (Nat.le_refl _); omega
theorem best_le (x y : List Str) : best x y ≤ x.length + y.length := by have := dis_best _ x y (Nat.le_refl _); omega
end Ar
/- The text Ad. -/
namespace Ar
inductive Ed where
 | keep (n : Nat) | del (l : Str) | add (l : Str)
def Ed.enc : Ed → Str
 | .keep n => 61 :: 32 :: itoa n
 | .del l => 45 :: 32 :: l
 | .add l => 43 :: 32 :: l
def flush (n : Nat) : List Ed := if n = 0 then [] else [.keep n]
def dl : List Str → List Str → Nat → List Ed
 | [], [], n => flush n
 | a :: x, [], n => flush n ++ .del a :: dl x [] 0
 | [], b :: y, n => flush n ++ .add b :: dl [] y 0
 | a :: x, b :: y, n => if a = b then dl x y (n + 1) else
  if dis x (b :: y) + 1 = dis (a :: x) (b :: y) then flush n ++ .del a :: dl x (b :: y) 0 else flush n ++ .add b :: dl (a :: x) y 0
termination_by x y _ => x.length + y.length
theorem dl_end (n : Nat) : dl [] [] n = flush n := by rw [dl]
theorem dl_eq (a : Str) (x y : List Str) (n : Nat) : dl (a :: x) (a :: y) n = dl x y (n + 1) := by rw [dl, if_pos rfl]
theorem dl_del0 (a : Str) (x : List Str) (n : Nat) : dl (a :: x) [] n = flush n ++ .del a :: dl x [] 0 := by rw [dl]
theorem dl_add0 (b : Str) (y : List Str) (n : Nat) : dl [] (b :: y) n = flush n ++ .add b :: dl [] y 0 := by rw [dl]
theorem dl_del {a b : Str} (x y : List Str) (n : Nat) (h : a ≠ b) (h2 : dis x (b :: y) + 1 = dis (a :: x) (b :: y)) : dl (a :: x) (b :: y) n = flush n ++ .del a :: dl x (b :: y) 0 := by rw [dl, if_neg h, if_pos h2]
theorem dl_add {a b : Str} (x y : List Str) (n : Nat) (h : a ≠ b) (h2 : ¬ dis x (b :: y) + 1 = dis (a :: x) (b :: y)) : dl (a :: x) (b :: y) n = flush n ++ .add b :: dl (a :: x) y 0 := by rw [dl, if_neg h, if_neg h2]
def diff (x y : List Str) : List Ed := dl x y 0
def Ed.chg : Ed → Nat
 | .keep _ => 0
 | _ => 1
def chgs (d : List Ed) : Nat := (d.map Ed.chg).sum
theorem chgs_app (a b : List Ed) : chgs (a ++ b) = chgs a + chgs b := by unfold chgs; simp
theorem chgs_flush (n : Nat) : chgs (flush n) = 0 := by unfold flush; split <;> rfl
theorem chgs_dl : ∀ (k : Nat) (x y : List Str) (n : Nat), x.length + y.length ≤ k → chgs (dl x y n) = dis x y
 | k, [], [], n, _ => by rw [dl_end, chgs_flush, dis_nil]; rfl
 | 0, a :: x, _, n, h => by simp at h
 | 0, [], b :: y, n, h => by simp at h
 | k + 1, a :: x, [], n, h => by
  have ih := chgs_dl k x [] 0 (by simp at h ⊢; omega)
  rw [dl_del0, chgs_app, chgs_flush, show chgs (.del a :: dl x [] 0) = 1 + chgs (dl x [] 0) from by simp [chgs, Ed.chg], ih, dis_nil2, dis_nil2]
  simp; omega
 | k + 1, [], b :: y, n, h => by
  have ih := chgs_dl k [] y 0 (by simp at h ⊢; omega)
  rw [dl_add0, chgs_app, chgs_flush, show chgs (.add b :: dl [] y 0) = 1 + chgs (dl [] y 0) from by simp [chgs, Ed.chg], ih, dis_nil, dis_nil]
  simp; omega
 | k + 1, a :: x, b :: y, n, h => by
  simp only [List.length_cons] at h
  by_cases e : a = b
  ·subst e
   rw [dl_eq, chgs_dl k x y (n + 1) (by omega), dis_eq]
  ·have hd := dis_ne x y e
   by_cases h2 : dis x (b :: y) + 1 = dis (a :: x) (b :: y)
   ·rw [dl_del x y n e h2, chgs_app, chgs_flush, show chgs (.del a :: dl x (b :: y) 0) = 1 + chgs (dl x (b :: y) 0) from by simp [chgs, Ed.chg], chgs_dl k x (b :: y) 0 (by simp only [List.length_cons]; omega)]
    omega
   ·rw [dl_add x y n e h2, chgs_app, chgs_flush, show chgs (.add b :: dl (a :: x) y 0) = 1 + chgs (dl (a :: x) y 0) from by simp [chgs, Ed.chg], chgs_dl k (a :: x) y 0 (by simp only [List.length_cons]; omega)]
    omega
theorem chgs_diff (x y : List Str) : chgs (diff x y) = dis x y := chgs_dl _ x y 0 (Nat.le_refl _)
def pnum (s : Str) : Option Int := match Go.Lib.atoiAll s with
 | .ok n => if itoa n = s then some n else none
 | _ => none
theorem pnum_itoa (n : Int) (h : inInt n) : pnum (itoa n) = some n := by unfold pnum; rw [atoi_itoa n h]; simp
theorem pnum_some {s : Str} {n : Int} (h : pnum s = some n) : s = itoa n := by
 unfold pnum at h
 split at h
 ·split at h
  ·injection h with h; subst h; symm; assumption
  ·cases h
 ·cases h
def elem (s : Str) : Option (UInt8 × Str) := match s with
 | c :: d :: r => if d = 32 then some (c, r) else none
 | _ => none
def astep (p : List Str × List Str) (s : Str) : Option (List Str × List Str) := match elem s with
 | none => none
 | some (c, r) =>
  if c = 61 then match pnum r with
   | some n => if 1 ≤ n ∧ n ≤ p.1.length then some (p.1.drop n.toNat, p.2 ++ p.1.take n.toNat) else none
   | none => none
  else if c = 45 then match p.1 with
   | l :: rest => if l = r then some (rest, p.2) else none
   | [] => none
  else if c = 43 then if (10 : UInt8) ∈ r then none else some (p.1, p.2 ++ [r])
  else none
def aall : List Str × List Str → List Str → Option (List Str × List Str)
 | p, [] => some p
 | p, s :: d => match astep p s with
  | some q => aall q d
  | none => none
def apply (a : Str) (d : List Str) : Option Str := match aall (lines a, []) d with
 | some (l, o) => if l = [] ∧ o ≠ [] then some (unlines o) else none
 | none => none
theorem aall_app (d e : List Str) : ∀ p, aall p (d ++ e) = (aall p d).bind fun q => aall q e := by
 induction d with
 | nil => intro p; rfl
 | cons s d ih =>
  intro p
  show (match astep p s with | some q => aall q (d ++ e) | none => none) = (match astep p s with | some q => aall q d | none => none).bind _
  cases astep p s with
  | none => rfl
  | some q => exact ih q
theorem astep_keep (x o : List Str) (n : Nat) (h1 : 1 ≤ n) (h2 : n ≤ x.length) (h3 : n < 9223372036854775808) : astep (x, o) (Ed.keep n).enc = some (x.drop n, o ++ x.take n) := by
 unfold astep
 have he : elem (Ed.keep n).enc = some (61, itoa n) := rfl
 rw [he]
 simp only [if_true, pnum_itoa (n : Int) (by unfold inInt; omega)]
 rw [if_pos ⟨by omega, by omega⟩]
 rfl
theorem astep_del (l : Str) (x o : List Str) : astep (l :: x, o) (Ed.del l).enc = some (x, o) := by
 unfold astep
 have he : elem (Ed.del l).enc = some (45, l) := rfl
 rw [he]
 simp only [if_true]
 rw [if_neg (by decide)]
theorem astep_add (l : Str) (x o : List Str) (h : (10 : UInt8) ∉ l) : astep (x, o) (Ed.add l).enc = some (x, o ++ [l]) := by
 unfold astep
 have he : elem (Ed.add l).enc = some (43, l) := rfl
 rw [he]
 simp only [if_true]
 rw [if_neg (by decide), if_neg (by decide), if_neg h]
theorem aall_flush (n : Nat) (p x o : List Str) (hp : p.length = n) (h3 : n < 9223372036854775808) : aall (p ++ x, o) ((flush n).map Ed.enc) = some (x, o ++ p) := by
 unfold flush
 split
 ·have : p = [] := List.eq_nil_of_length_eq_zero (by omega)
  subst this
  simp [aall]
 ·show (match astep (p ++ x, o) (Ed.keep n).enc with | some q => aall q [] | none => none) = _
  rw [astep_keep _ _ _ (by omega) (by rw [List.length_append]; omega) h3]
  simp [aall, ← hp]
theorem aall_dl : ∀ (k : Nat) (x y p o : List Str) (n : Nat), x.length + y.length ≤ k → p.length = n → n + x.length < 9223372036854775808 → (∀ l ∈ y, (10 : UInt8) ∉ l) →
  aall (p ++ x, o) ((dl x y n).map Ed.enc) = some ([], o ++ p ++ y)
 | k, [], [], p, o, n, _, hp, h3, _ => by rw [dl_end, aall_flush n p [] o hp (by omega)]; simp
 | 0, a :: x, _, p, o, n, h, _, _, _ => by simp at h
 | 0, [], b :: y, p, o, n, h, _, _, _ => by simp at h
 | k + 1, a :: x, [], p, o, n, h, hp, h3, hy => by
  have ih := aall_dl k x [] [] (o ++ p) 0 (by simp at h ⊢; omega) rfl (by simp at h3 ⊢; omega) hy
  rw [dl_del0, List.map_append, aall_app, aall_flush n p (a :: x) o hp (by omega)]
  show (match astep (a :: x, o ++ p) (Ed.del a).enc with | some q => aall q ((dl x [] 0).map Ed.enc) | none => none) = _
  rw [astep_del]
  rw [List.nil_append] at ih
  simp only [ih]
  simp
 | k + 1, [], b :: y, p, o, n, h, hp, h3, hy => by
  have ih := aall_dl k [] y [] (o ++ p ++ [b]) 0 (by simp at h ⊢; omega) rfl (by simp) (fun l hl => hy l (by simp [hl]))
  rw [dl_add0, List.map_append, aall_app, aall_flush n p [] o hp (by omega)]
  show (match astep ([], o ++ p) (Ed.add b).enc with | some q => aall q ((dl [] y 0).map Ed.enc) | none => none) = _
  rw [astep_add _ _ _ (hy b (by simp))]
  rw [List.nil_append] at ih
  simp only [ih]
  simp
 | k + 1, a :: x, b :: y, p, o, n, h, hp, h3, hy => by
  simp only [List.length_cons] at h h3
  by_cases e : a = b
  ·subst e
   have ih := aall_dl k x y (p ++ [a]) o (n + 1) (by omega) (by simp [hp]) (by omega) (fun l hl => hy l (by simp [hl]))
   rw [dl_eq]
   simpa using ih
  ·by_cases h2 : dis x (b :: y) + 1 = dis (a :: x) (b :: y)
   ·have ih := aall_dl k x (b :: y) [] (o ++ p) 0 (by simp only [List.length_cons]; omega) rfl (by omega) hy
    rw [dl_del x y n e h2, List.map_append, aall_app, aall_flush n p (a :: x) o hp (by omega)]
    show (match astep (a :: x, o ++ p) (Ed.del a).enc with | some q => aall q ((dl x (b :: y) 0).map Ed.enc) | none => none) = _
    rw [astep_del]
    rw [List.nil_append] at ih
    simp only [ih]
    simp
   ·have ih := aall_dl k (a :: x) y [] (o ++ p ++ [b]) 0 (by simp only [List.length_cons]; omega) rfl (by simp only [List.length_cons]; omega) (fun l hl => hy l (by simp [hl]))
    rw [dl_add x y n e h2, List.map_append, aall_app, aall_flush n p (a :: x) o hp (by omega)]
    show (match astep (a :: x, o ++ p) (Ed.add b).enc with | some q => aall q ((dl (a :: x) y 0).map Ed.enc) | none => none) = _
    rw [astep_add _ _ _ (hy b (by simp))]
    rw [List.nil_append] at ih
    simp only [ih]
    simp
theorem apply_diff (a b : Str) (h : (lines a).length < 9223372036854775808) : apply a ((diff (lines a) (lines b)).map Ed.enc) = some b := by
 have h1 := aall_dl _ (lines a) (lines b) [] [] 0 (Nat.le_refl _) rfl (by omega) (lines_noLF b)
 rw [List.nil_append] at h1
 unfold apply diff
 rw [h1]
 simp [lines_ne b, unlines_lines]
def chgS (s : Str) : Nat := match s with
 | [] => 0
 | c :: _ => if c = 61 then 0 else 1
def chgsS (d : List Str) : Nat := (d.map chgS).sum
theorem chgS_enc (e : Ed) : chgS e.enc = e.chg := by cases e <;> rfl
theorem chgsS_enc (d : List Ed) : chgsS (d.map Ed.enc) = chgs d := by
 unfold chgsS chgs
 rw [List.map_map]
 congr 1
 exact List.map_congr_left fun e _ => chgS_enc e
theorem astep_dis {x o : List Str} {s : Str} {q : List Str × List Str} (h : astep (x, o) s = some q) : ∃ t, q.2 = o ++ t ∧ ∀ y, dis x (t ++ y) ≤ chgS s + dis q.1 y := by
 unfold astep at h
 cases he : elem s with
 | none => rw [he] at h; cases h
 | some p =>
  obtain ⟨c, r⟩ := p
  rw [he] at h
  simp only at h
  have hs : ∃ r', s = c :: 32 :: r' ∧ r = r' := by
   unfold elem at he
   split at he
   ·split at he
    ·rename_i hd
     injection he with he; injection he with h1 h2
     subst h1 h2 hd
     exact ⟨_, rfl, rfl⟩
    ·cases he
   ·cases he
  obtain ⟨r', rfl, rfl⟩ := hs
  by_cases h1 : c = 61
  ·subst h1
   rw [if_pos rfl] at h
   split at h
   ·split at h
    ·rename_i n _ hn
     injection h with h
     subst h
     refine ⟨x.take n.toNat, rfl, fun y => ?_⟩
     show dis x _ ≤ 0 + dis (x.drop n.toNat) y
     have := dis_keep (x.take n.toNat) (x.drop n.toNat) y
     rw [List.take_append_drop] at this
     omega
    ·cases h
   ·cases h
  ·rw [if_neg h1] at h
   have hc : chgS (c :: 32 :: r) = 1 := if_neg h1
   by_cases h2 : c = 45
   ·rw [if_pos h2] at h
    cases x with
    | nil => cases h
    | cons l rest =>
     simp only at h
     split at h
     ·injection h with h
      subst h
      refine ⟨[], by simp, fun y => ?_⟩
      have := dis_del rest y l
      rw [List.nil_append, hc]
      simp only
      omega
     ·cases h
   ·rw [if_neg h2] at h
    split at h
    ·split at h
     ·cases h
     ·injection h with h
      subst h
      refine ⟨[r], rfl, fun y => ?_⟩
      have := dis_add x y r
      rw [hc]
      simp only [List.singleton_append]
      omega
    ·cases h
theorem aall_dis : ∀ (d : List Str) (x o : List Str) (q : List Str × List Str), aall (x, o) d = some q → ∃ t, q.2 = o ++ t ∧ ∀ y, dis x (t ++ y) ≤ chgsS d + dis q.1 y
 | [], x, o, q, h => by
  injection h with h
  subst h
  exact ⟨[], by simp, fun y => by simp [chgsS]⟩
 | s :: d, x, o, q, h => by
  unfold aall at h
  cases hs : astep (x, o) s with
  | none => rw [hs] at h; cases h
  | some p =>
   rw [hs] at h
   obtain ⟨t1, e1, h1⟩ := astep_dis hs
   obtain ⟨px, po⟩ := p
   obtain ⟨t2, e2, h2⟩ := aall_dis d px po q h
   simp only at e1
   subst e1
   refine ⟨t1 ++ t2, by rw [e2, List.append_assoc], fun y => ?_⟩
   have h3 := h1 (t2 ++ y)
   have h4 := h2 y
   rw [List.append_assoc]
   have : chgsS (s :: d) = chgS s + chgsS d := by simp [chgsS]
   simp only at h3
   omega
theorem astep_noLF {x o : List Str} {s : Str} {q : List Str × List Str} (h : astep (x, o) s = some q) (hx : ∀ l ∈ x, (10 : UInt8) ∉ l) (ho : ∀ l ∈ o, (10 : UInt8) ∉ l) : (∀ l ∈ q.1, (10 : UInt8) ∉ l) ∧ ∀ l ∈ q.2, (10 : UInt8) ∉ l := by
 unfold astep at h
 split at h
 ·cases h
 ·split at h
  ·split at h
   ·split at h
    ·injection h with h
     subst h
     refine ⟨fun l hl => hx l (List.mem_of_mem_drop hl), fun l hl => ?_⟩
     rcases List.mem_append.1 hl with hl | hl
     ·exact ho l hl
     ·exact hx l (List.mem_of_mem_take hl)
    ·cases h
   ·cases h
  ·split at h
   ·split at h
    ·rename_i l rest hx'
     split at h
     ·injection h with h
      subst h
      have hx'' : x = l :: rest := hx'
      subst hx''
      exact ⟨fun m hm => hx m (by simp [hm]), ho⟩
     ·cases h
    ·cases h
   ·split at h
    ·split at h
     ·cases h
     ·rename_i hr
      injection h with h
      subst h
      refine ⟨hx, fun l hl => ?_⟩
      rcases List.mem_append.1 hl with hl | hl
      ·exact ho l hl
      ·rw [List.mem_singleton.1 hl]; exact hr
    ·cases h
theorem aall_noLF : ∀ (d : List Str) (x o : List Str) (q : List Str × List Str), aall (x, o) d = some q → (∀ l ∈ x, (10 : UInt8) ∉ l) → (∀ l ∈ o, (10 : UInt8) ∉ l) → ∀ l ∈ q.2, (10 : UInt8) ∉ l
 | [], x, o, q, h, _, ho => by injection h with h; subst h; exact ho
 | s :: d, x, o, q, h, hx, ho => by
  unfold aall at h
  cases hs : astep (x, o) s with
  | none => rw [hs] at h; cases h
  | some p =>
   rw [hs] at h
   obtain ⟨px, po⟩ := p
   have := astep_noLF hs hx ho
   exact aall_noLF d px po q h this.1 this.2
theorem least {a t : Str} {d : List Str} (h : apply a d = some t) : chgs (diff (lines a) (lines t)) ≤ chgsS d := by
 unfold apply at h
 split at h
 ·rename_i l o hl
  split at h
  ·rename_i hc
   injection h with h
   subst h
   obtain ⟨rfl, hne⟩ := hc
   obtain ⟨t2, e2, h2⟩ := aall_dis d (lines a) [] _ hl
   simp only [List.nil_append] at e2
   subst e2
   have h3 := h2 []
   rw [List.append_nil, dis_nil] at h3
   have h4 := aall_noLF d (lines a) [] _ hl (lines_noLF a) (by simp)
   rw [lines_unlines o hne h4, chgs_diff]
   simpa using h3
  ·cases h
 ·cases h
end Ar
