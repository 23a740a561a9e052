/- The texts Af, Ag, Al of this proof, one behind the other. -/
import Derived.Lib.Join
import Derived.Lib.Strings
import Derived.Test.YteadlcncnhbmjaaGreatDoorMsab
set_option linter.unusedSimpArgs false
set_option maxHeartbeats 16000000
set_option maxRecDepth 100000
set_option linter.unusedVariables false
namespace Ar
def join (sep : Str) : List Str → Str
 | [] => []
 | [x] => x
 | x :: y :: r => x ++ sep ++ join sep (y :: r)
theorem I6 (sep : Str) : ∀ xs : List Str, Go.Lib.join xs sep = join sep xs
 | [] => rfl
 | [x] => by rw [Go.Lib.join_one]; rfl
 | x :: y :: r => by
  have ih := I6 sep (y :: r);rw [Go.Lib.join_cons] at ih ⊢;rw [join, ← ih];simp [Go.Lib.joinTail]
theorem DF (sep x : Str) (r : List Str) (h : r ≠ []) : join sep (x :: r) = x ++ sep ++ join sep r := by
 cases r with
 | nil => exact absurd rfl h
 | cons y r => rfl
abbrev RS := Str × Bool
def eat (t : Str) (r : RS) : RS := if Go.Lib.hasPrefix r.1 t then (r.1.drop t.length, r.2) else (r.1, true)
def has (t : Str) (r : RS) : Bool × RS := if !r.2 && Go.Lib.hasPrefix r.1 t then (true, (r.1.drop t.length, r.2)) else (false, r)
def az (c : UInt8) : Bool := decide (97 ≤ c.toNat ∧ c.toNat ≤ 122)
def word (r : RS) : Str × RS := (r.1.takeWhile az, (r.1.dropWhile az, r.2))
def rnum (r : RS) : Int × RS := match Go.Lib.atoiAll (r.1.takeWhile numch) with
 | .ok n => (n, (r.1.dropWhile numch, r.2))
 | _ => (0, (r.1, true))
def rtext (r : RS) : Str × RS := match At r.1 with
 | some p => (p.1, (p.2, r.2))
 | none => ([], (r.1, true))
def Au {α : Type} (one : RS → α × RS) : Nat → RS → List α × RS
 | 0, r => ([], r)
 | n + 1, r => if (has [44] (one r).2).1 then ((one r).1 :: (Au one n (has [44] (one r).2).2).1, (Au one n (has [44] (one r).2).2).2) else ([(one r).1], (has [44] (one r).2).2)
def rusr (r : RS) : (Str × Int) × RS := (((rtext r).1, (rnum (eat [58] (rtext r).2)).1), (rnum (eat [58] (rtext r).2)).2)
def rknd (r : RS) : (Int × Int) × RS := (((rnum r).1, (rnum (eat [58] (rnum r).2)).1), (rnum (eat [58] (rnum r).2)).2)
inductive FV where
 | num (n : Int) | txt (s : Str) | flg (b : Bool) | nums (l : List Int) | txts (l : List Str) | usrs (l : List (Str × Int)) | knds (l : List (Int × Int))
inductive FK where
 | num | txt | flg | nums | txts | usrs | knds
def FV.kind : FV → FK
 | .num _ => .num | .txt _ => .txt | .flg _ => .flg | .nums _ => .nums | .txts _ => .txts | .usrs _ => .usrs | .knds _ => .knds
def FK.zero : FK → FV
 | .num => .num 0 | .txt => .txt [] | .flg => .flg false | .nums => .nums [] | .txts => .txts [] | .usrs => .usrs [] | .knds => .knds []
def usrT (p : Str × Int) : Str := quote p.1 ++ 58 :: itoa p.2
def kndT (p : Int × Int) : Str := itoa p.1 ++ 58 :: itoa p.2
def FV.text : FV → Str
 | .num n => if n = 0 then [] else itoa n
 | .txt s => if s = [] then [] else quote s
 | .flg _ => []
 | .nums l => join [44] (l.map itoa)
 | .txts l => join [44] (l.map quote)
 | .usrs l => join [44] (l.map usrT)
 | .knds l => join [44] (l.map kndT)
def item (name : Str) (v : FV) : Str := match v with
 | .flg b => if b then name else []
 | v => if v.text = [] then [] else name ++ 61 :: v.text
def readK : FK → RS → FV × RS
 | .num, r => (.num (rnum r).1, (rnum r).2)
 | .txt, r => (.txt (rtext r).1, (rtext r).2)
 | .flg, r => (.flg true, r)
 | .nums, r => (.nums (Au rnum (r.1.length + 1) r).1, (Au rnum (r.1.length + 1) r).2)
 | .txts, r => (.txts (Au rtext (r.1.length + 1) r).1, (Au rtext (r.1.length + 1) r).2)
 | .usrs, r => (.usrs (Au rusr (r.1.length + 1) r).1, (Au rusr (r.1.length + 1) r).2)
 | .knds, r => (.knds (Au rknd (r.1.length + 1) r).1, (Au rknd (r.1.length + 1) r).2)
def FV.Ok : FV → Prop
 | .num n => inInt n
 | .nums l => ∀ n ∈ l, inInt n
 | .usrs l => ∀ p ∈ l, inInt p.2
 | .knds l => ∀ p ∈ l, inInt p.1 ∧ inInt p.2
 | _ => True
theorem BX (t r : Str) : Go.Lib.hasPrefix (t ++ r) t = true := by unfold Go.Lib.hasPrefix; rw [List.isPrefixOf_iff_prefix]; exact List.prefix_append t r
theorem DN (t r : Str) (b : Bool) : eat t (t ++ r, b) = (r, b) := by unfold eat; rw [if_pos (BX t r), List.drop_left]
theorem OZ (t r : Str) : has t (t ++ r, false) = (true, (r, false)) := by unfold has; simp only [BX, Bool.not_false, Bool.and_self, if_true, List.drop_left]
theorem CP (n : Int) (t : Str) (b : Bool) (h : inInt n) (ht : Stop numch t) : rnum (itoa n ++ t, b) = (n, (t, b)) := by
 have hs := Dj (Ga n) ht;unfold rnum;simp only [hs.1, hs.2, ND n h]
theorem Dn (s t : Str) (b : Bool) : rtext (quote s ++ t, b) = (s, (t, b)) := by
 unfold rtext;simp only [BJ]
theorem Rr (p : Str × Int) (t : Str) (b : Bool) (h : inInt p.2) (ht : Stop numch t) : rusr (usrT p ++ t, b) = (p, (t, b)) := by
 unfold rusr usrT;have e : quote p.1 ++ 58 :: itoa p.2 ++ t = quote p.1 ++ ([58] ++ (itoa p.2 ++ t)) := by simp
 simp only [e, Dn, DN, CP _ _ _ h ht]
theorem Q6 (p : Int × Int) (t : Str) (b : Bool) (h : inInt p.1 ∧ inInt p.2) (ht : Stop numch t) : rknd (kndT p ++ t, b) = (p, (t, b)) := by
 unfold rknd kndT;have e : itoa p.1 ++ 58 :: itoa p.2 ++ t = itoa p.1 ++ ([58] ++ (itoa p.2 ++ t)) := by simp
 have hs : Stop numch ([58] ++ (itoa p.2 ++ t)) := by intro c r h; injection h with h1 h2; subst h1; decide
 simp only [e, CP _ _ _ h.1 hs, DN, CP _ _ _ h.2 ht]
theorem RK (c : UInt8) (t : Str) (b : Bool) (h : ∀ d r, t = d :: r → d ≠ c) : has [c] (t, b) = (false, (t, b)) := by
 unfold has;rw [if_neg];intro h2;simp only [Bool.and_eq_true] at h2
 cases t with
 | nil => simp [Go.Lib.hasPrefix] at h2
 | cons d r =>
  have := h2.2;simp [Go.Lib.hasPrefix] at this;exact h d r rfl this.symm
theorem Ep {α : Type} (one : RS → α × RS) (tx : α → Str) (t : Str) (ht : Stop (fun c => c == 44 || numch c) t) :
  ∀ (l : List α) (n : Nat), l ≠ [] → l.length ≤ n → (∀ x ∈ l, ∀ u, Stop numch u → one (tx x ++ u, false) = (x, (u, false))) → Au one n (join [44] (l.map tx) ++ t, false) = (l, (t, false))
 | [], _, h, _, _ => absurd rfl h
 | _ :: _, 0, _, h, _ => by simp at h
 | [x], n + 1, _, _, h => by
  have h1 := h x (by simp) t (fun c r e => by have := ht c r e; simp at this; exact this.2);have h2 : has [44] (t, false) = (false, (t, false)) := RK 44 t false (fun d r e he => by have := ht d r e; simp at this; exact this.1 he);show Au one (n + 1) (tx x ++ t, false) = _;unfold Au;simp only [h1, h2, Bool.false_eq_true, if_false]
 | x :: y :: l, n + 1, _, hl, h => by
  have e : join [44] ((x :: y :: l).map tx) ++ t = tx x ++ ([44] ++ (join [44] ((y :: l).map tx) ++ t)) := by
   rw [List.map_cons, DF _ _ _ (by simp)];simp
  have hs : Stop numch ([44] ++ (join [44] ((y :: l).map tx) ++ t)) := by intro c r h; injection h with h1 h2; subst h1; decide
  have h1 := h x (by simp) _ hs;have ih := Ep one tx t ht (y :: l) n (by simp) (by simp at hl ⊢; omega) (fun z hz => h z (List.mem_cons_of_mem _ hz));rw [e];unfold Au;simp only [h1, OZ, if_true, ih]
theorem Ci {α : Type} (tx : α → Str) (h : ∀ x, tx x ≠ []) : ∀ l : List α, l.length ≤ (join [44] (l.map tx)).length
 | [] => by simp
 | [x] => by
  have := List.length_pos_iff.2 (h x);simp [join];omega
 | x :: y :: l => by
  have ih := Ci tx h (y :: l);have := List.length_pos_iff.2 (h x);rw [List.map_cons, DF _ _ _ (by simp)];simp only [List.length_append, List.length_cons, List.length_nil] at ih ⊢;omega
theorem Dv {α : Type} (tx : α → Str) (h : ∀ x, tx x ≠ []) (l : List α) : join [44] (l.map tx) = [] ↔ l = [] := by
 constructor
 ·intro e;have := Ci tx h l;rw [e] at this;exact List.eq_nil_of_length_eq_zero (by simpa using this)
 ·rintro rfl; rfl
theorem Fj (s : Str) : quote s ≠ [] := by simp [quote]
theorem J5 (p : Str × Int) : usrT p ≠ [] := by simp [usrT, quote]
theorem J2 (p : Int × Int) : kndT p ≠ [] := by simp [kndT]
def Blank (t : Str) : Prop := ∀ c r, t = c :: r → c = 32
theorem Blank.stop {t : Str} (h : Blank t) : Stop (fun c => c == 44 || numch c) t := by intro c r e; rw [h c r e]; decide
theorem Blank.num {t : Str} (h : Blank t) : Stop numch t := by intro c r e; rw [h c r e]; decide
theorem Blank.az {t : Str} (h : Blank t) : Stop az t := by intro c r e; rw [h c r e]; decide
theorem Qx (v : FV) (t : Str) (hv : v.Ok) (hz : v.text ≠ []) (ht : Blank t) : readK v.kind (v.text ++ t, false) = (v, (t, false)) := by
 cases v with
 | num n =>
  have hn : n ≠ 0 := by intro e; subst e; exact hz rfl
  have e : FV.text (.num n) = itoa n := if_neg hn;rw [e];show (FV.num (rnum _).1, (rnum _).2) = _;rw [CP n t false hv ht.num]
 | txt s =>
  have hn : s ≠ [] := by intro e; subst e; exact hz rfl
  have e : FV.text (.txt s) = quote s := if_neg hn;rw [e];show (FV.txt (rtext _).1, (rtext _).2) = _;rw [Dn]
 | flg b => exact absurd rfl hz
 | nums l =>
  have hn : l ≠ [] := by intro e; subst e; exact hz rfl
  have := Ci itoa DX l;show (FV.nums (Au rnum ((join [44] (l.map itoa) ++ t).length + 1) (join [44] (l.map itoa) ++ t, false)).1, (Au rnum ((join [44] (l.map itoa) ++ t).length + 1) (join [44] (l.map itoa) ++ t, false)).2) = _;rw [Ep rnum itoa t ht.stop l _ hn (by rw [List.length_append]; omega) (fun x hx u hu => CP x u false (hv x hx) hu)]
 | txts l =>
  have hn : l ≠ [] := by intro e; subst e; exact hz rfl
  have := Ci quote Fj l;show (FV.txts (Au rtext ((join [44] (l.map quote) ++ t).length + 1) (join [44] (l.map quote) ++ t, false)).1, (Au rtext ((join [44] (l.map quote) ++ t).length + 1) (join [44] (l.map quote) ++ t, false)).2) = _;rw [Ep rtext quote t ht.stop l _ hn (by rw [List.length_append]; omega) (fun x _ u _ => Dn x u false)]
 | usrs l =>
  have hn : l ≠ [] := by intro e; subst e; exact hz rfl
  have := Ci usrT J5 l;show (FV.usrs (Au rusr ((join [44] (l.map usrT) ++ t).length + 1) (join [44] (l.map usrT) ++ t, false)).1, (Au rusr ((join [44] (l.map usrT) ++ t).length + 1) (join [44] (l.map usrT) ++ t, false)).2) = _;rw [Ep rusr usrT t ht.stop l _ hn (by rw [List.length_append]; omega) (fun x hx u hu => Rr x u false (hv x hx) hu)]
 | knds l =>
  have hn : l ≠ [] := by intro e; subst e; exact hz rfl
  have := Ci kndT J2 l;show (FV.knds (Au rknd ((join [44] (l.map kndT) ++ t).length + 1) (join [44] (l.map kndT) ++ t, false)).1, (Au rknd ((join [44] (l.map kndT) ++ t).length + 1) (join [44] (l.map kndT) ++ t, false)).2) = _;rw [Ep rknd kndT t ht.stop l _ hn (by rw [List.length_append]; omega) (fun x hx u hu => Q6 x u false (hv x hx) hu)]
end Ar
namespace Ar
def NK : List (Str × FK) := [([105, 100], .num), ([114, 111, 111, 109], .txt), ([115, 101, 110, 100, 101, 114], .txt), ([107, 105, 110, 100], .num), ([115, 116, 97, 116, 101], .flg), ([107, 101, 121], .txt), ([116, 105, 109, 101], .num), ([100, 101, 112, 116, 104], .num), ([112, 114, 101, 118], .nums), ([97, 117, 116, 104], .nums), ([116, 101, 120, 116], .txt), ([110], .num), ([116, 97, 114, 103, 101, 116], .num), ([116, 104, 114, 101, 97, 100], .flg), ([118, 105, 97], .txt), ([97, 108, 108, 111, 119], .txts), ([100, 101, 110, 121], .txts), ([117, 115, 101, 114, 115], .usrs), ([107, 105, 110, 100, 115], .knds), ([117, 115, 101, 114], .num), ([109, 101, 115, 115, 97, 103, 101], .num), ([115, 116, 97, 116, 101, 115], .num), ([105, 110, 118, 105, 116, 101], .num), ([107, 105, 99, 107], .num), ([98, 97, 110], .num), ([114, 101, 100, 97, 99, 116], .num), ([104, 97, 115, 104], .num), ([115, 101, 114, 118, 101, 114], .txt), ([115, 117, 109], .num)]
def items (q : List (Str × FK)) (b : List FV) : List Str := (List.zipWith (fun nk v => item nk.1 v) q b).filter (fun x => decide (x ≠ []))
def restL (q : List (Str × FK)) (b : List FV) : Str := join [32] (items q b)
def line (e : List FV) : Str := restL NK e
def zeros (q : List (Str × FK)) : List FV := q.map fun p => p.2.zero
def Fits (q : List (Str × FK)) (b : List FV) : Prop := b.length = q.length ∧ ∀ (i : Nat) (nk : Str × FK) (v : FV), q[i]? = some nk → b[i]? = some v → v.kind = nk.2 ∧ v.Ok
def isFlg : FK → Bool
  | .flg => true
  | _ => false
def loopF : Nat → List FV → RS → Option (List FV × RS)
  | 0, _, _ => none
  | n + 1, e, r => if r.1 = [] ∨ r.2 = true then some (e, r) else
    match NK.findIdx? (fun p => decide (p.1 = (word r).1)) with
    | none => none
    | some i =>
      let k := ((NK[i]?).map (·.2)).getD .num
      let r2 := if isFlg k then (word r).2 else eat [61] (word r).2
      let p := if r2.2 then (e, r2) else (e.set i (readK k r2).1, (readK k r2).2)
      loopF n p.1 (if p.2.1 = [] then p.2 else eat [32] p.2)
def parse (s : Str) : Option (List FV) := match loopF (s.length + 1) (zeros NK) (s, false) with
  | none => none
  | some p => if p.2.2 = true ∨ line p.1 ≠ s then none else some p.1
theorem Gh : (NK.map (·.1)).Nodup := by decide
theorem NK_az : ∀ p ∈ NK, p.1 ≠ [] ∧ ∀ c ∈ p.1, az c = true := by decide
theorem Ll (p : List (Str × FK)) (nm : Str) (k : FK) (q : List (Str × FK)) (h : ((p ++ (nm, k) :: q).map (·.1)).Nodup) : (p ++ (nm, k) :: q).findIdx? (fun x => decide (x.1 = nm)) = some p.length := by
  induction p with
  | nil => simp [List.findIdx?_cons]
  | cons a p ih =>
    rw [List.cons_append, List.map_cons, List.nodup_cons] at h;have hne : ¬ a.1 = nm := by
      intro e;exact h.1 (by rw [e]; simp)
    rw [List.cons_append, List.findIdx?_cons, ih h.2];simp [hne]
theorem Ov {v : FV} (hf : isFlg v.kind = false) (h : v.text = []) : v = v.kind.zero := by
  cases v with
  | num n => by_cases e : n = 0
             · subst e; rfl
             · have : FV.text (.num n) = itoa n := if_neg e
               rw [this] at h; exact absurd h (DX n)
  | txt s => by_cases e : s = []
             · subst e; rfl
             · have : FV.text (.txt s) = quote s := if_neg e
               rw [this] at h; exact absurd h (Fj s)
  | flg b => cases hf
  | nums l => rw [(Dv itoa DX l).1 h]; rfl
  | txts l => rw [(Dv quote Fj l).1 h]; rfl
  | usrs l => rw [(Dv usrT J5 l).1 h]; rfl
  | knds l => rw [(Dv kndT J2 l).1 h]; rfl
theorem CA (nm : Str) {v : FV} (h : isFlg v.kind = false) : item nm v = if v.text = [] then [] else nm ++ 61 :: v.text := by
  cases v <;> first | rfl | cases h
theorem Jr {nm : Str} {v : FV} (hn : nm ≠ []) (h : item nm v = []) : v = v.kind.zero := by
  cases hf : isFlg v.kind with
  | true =>
    cases v with
    | flg b => cases b with
      | false => rfl
      | true => exact absurd h hn
    | _ => cases hf
  | false =>
    rw [CA nm hf] at h;split at h
    · exact Ov hf ‹_›
    · simp at h
theorem CZ (nm : Str) (k : FK) (q : List (Str × FK)) (v : FV) (b : List FV) : items ((nm, k) :: q) (v :: b) = if item nm v = [] then items q b else item nm v :: items q b := by
  unfold items;rw [List.zipWith_cons_cons, List.filter_cons];by_cases h : item nm v = [] <;> simp [h]
theorem KI (q : List (Str × FK)) (b : List FV) : ∀ x ∈ items q b, x ≠ [] := by
  intro x hx;unfold items at hx;have := (List.mem_filter.1 hx).2
  simpa using this
theorem OC (q : List (Str × FK)) (b : List FV) : restL q b = [] ↔ items q b = [] := by
  unfold restL
  cases h : items q b with
  | nil => simp [join]
  | cons x r =>
    have hx := KI q b x (by rw [h]; simp)
    cases r with
    | nil => simp [join, hx]
    | cons y r => simp [join, hx]
def Bf (t : Str) : Str := if t = [] then [] else 32 :: t
theorem Im (nm : Str) (k : FK) (q : List (Str × FK)) (v : FV) (b : List FV) (h : item nm v ≠ []) : restL ((nm, k) :: q) (v :: b) = item nm v ++ Bf (restL q b) := by
  have e := OC q b;unfold restL Bf at *;rw [CZ, if_neg h];by_cases h2 : items q b = []
  · rw [if_pos (e.2 h2), h2]
    simp [join]
  · rw [if_neg (fun h3 => h2 (e.1 h3)), DF _ _ _ h2]
    simp
theorem GI (t : Str) : Blank (Bf t) := by
  intro c r h;unfold Bf at h;split at h
  · cases h
  · injection h with h1 _; exact h1.symm
theorem It : ∀ (q : List (Str × FK)) (p : List (Str × FK)) (a b : List FV) (n : Nat), NK = p ++ q → a.length = p.length → Fits q b → (items q b).length < n →
    loopF n (a ++ zeros q) (restL q b, false) = some (a ++ b, ([], false))
  | [], p, a, b, n, _, _, hf, hn => by
    have : b = [] := List.eq_nil_of_length_eq_zero hf.1;subst this
    cases n with
    | zero => simp at hn
    | succ n =>
      unfold loopF;rw [if_pos (show (restL [] [], false).1 = [] ∨ _ from Or.inl rfl)];rfl
  | (nm, k) :: q, p, a, [], n, _, _, hf, _ => by have := hf.1; simp at this
  | (nm, k) :: q, p, a, v :: b, 0, _, _, _, hn => by simp at hn
  | (nm, k) :: q, p, a, v :: b, n + 1, hNK, ha, hf, hn => by
    have hmem : (nm, k) ∈ NK := by rw [hNK]; simp
    have hnm := NK_az _ hmem;have hv := hf.2 0 (nm, k) v rfl rfl;have hf' : Fits q b := ⟨by have := hf.1; simpa using this, fun i nk v h1 h2 => hf.2 (i + 1) nk v h1 h2⟩;have hNK' : NK = (p ++ [(nm, k)]) ++ q := by rw [hNK]; simp
    by_cases hi : item nm v = []
    · have hz := Jr hnm.1 hi
      have e1 : restL ((nm, k) :: q) (v :: b) = restL q b := by unfold restL; rw [CZ, if_pos hi]
      have e2 : a ++ zeros ((nm, k) :: q) = (a ++ [v]) ++ zeros q := by
        rw [hz, hv.1]; simp [zeros]
      rw [CZ, if_pos hi] at hn;rw [e1, e2, It q (p ++ [(nm, k)]) (a ++ [v]) b (n + 1) hNK' (by simp [ha]) hf' hn];simp
    · rw [Im nm k q v b hi]
      have hb := GI (restL q b);have hfind : NK.findIdx? (fun x => decide (x.1 = nm)) = some p.length := by rw [hNK]; exact Ll p nm k q (by rw [← hNK]; exact Gh)
      have hk : ((NK[p.length]?).map (·.2)).getD .num = k := by rw [hNK]; simp
      have hset : (a ++ zeros ((nm, k) :: q)).set p.length v = (a ++ [v]) ++ zeros q := by
        rw [← ha, List.set_append_right _ _ (Nat.le_refl _), Nat.sub_self];simp [zeros]
      have hne : item nm v ++ Bf (restL q b) ≠ [] := by simp [hi]
      rw [CZ, if_neg hi, List.length_cons] at hn;have ih := It q (p ++ [(nm, k)]) (a ++ [v]) b n hNK' (by simp [ha]) hf' (by omega);have hlast : (if Bf (restL q b) = [] then ((Bf (restL q b), false) : RS) else eat [32] (Bf (restL q b), false)) = (restL q b, false) := by
        unfold Bf;by_cases h0 : restL q b = []
        · rw [if_pos h0, if_pos rfl, h0]
        · rw [if_neg h0, if_neg (by simp)]
          exact DN [32] (restL q b) false
      unfold loopF;rw [if_neg (by simp only [Bool.false_eq_true, or_false]; exact hne)]
      cases hfl : isFlg k with
      | true =>
        have hvt : v = .flg true := by
          have := hv.1
          cases v with
          | flg b => cases b with
            | true => rfl
            | false => exact absurd rfl hi
          | _ => (simp only [FV.kind] at this; subst this; cases hfl)
        have hki : k = .flg := by cases k <;> first | rfl | cases hfl
        have hit : item nm v = nm := by rw [hvt]; rfl
        have hw : word (item nm v ++ Bf (restL q b), false) = (nm, (Bf (restL q b), false)) := by
          rw [hit];have := Dj hnm.2 hb.az;unfold word;simp only [this.1, this.2]
        rw [hw];simp only [hfind, hk, hfl, if_true, Bool.false_eq_true, if_false];have hrd : readK k (Bf (restL q b), false) = (v, (Bf (restL q b), false)) := by rw [hki, hvt]; rfl
        simp only [hrd, hset, hlast, ih];simp
      | false =>
        have hkf : isFlg v.kind = false := by rw [hv.1]; exact hfl
        have hvt : v.text ≠ [] := by
          intro e;rw [CA nm hkf, if_pos e] at hi;exact hi rfl
        have hit : item nm v ++ Bf (restL q b) = nm ++ ([61] ++ (v.text ++ Bf (restL q b))) := by rw [CA nm hkf, if_neg hvt]; simp
        have hs : Stop az ([61] ++ (v.text ++ Bf (restL q b))) := by intro c r h; injection h with h1 h2; subst h1; decide
        have hw : word (item nm v ++ Bf (restL q b), false) = (nm, ([61] ++ (v.text ++ Bf (restL q b)), false)) := by
          rw [hit];have := Dj hnm.2 hs;unfold word;simp only [this.1, this.2]
        rw [hw];simp only [hfind, hk, hfl, Bool.false_eq_true, if_false, DN];have hrd : readK k (v.text ++ Bf (restL q b), false) = (v, (Bf (restL q b), false)) := by
          have hk2 : v.kind = k := hv.1;rw [← hk2];exact Qx v _ hv.2 hvt hb
        simp only [hrd, hset, hlast, ih];simp
theorem JA : ∀ (q : List (Str × FK)) (b : List FV), (items q b).length ≤ (restL q b).length := by
  intro q b;unfold restL;have hne := KI q b;generalize items q b = l at *
  induction l with
  | nil => simp
  | cons x r ih =>
    have hx := List.length_pos_iff.2 (hne x (by simp))
    cases r with
    | nil =>
      simp [join];omega
    | cons y r =>
      have := ih (fun z hz => hne z (List.mem_cons_of_mem _ hz));rw [DF _ _ _ (by simp)];simp only [List.length_append, List.length_cons, List.length_nil] at this ⊢;omega
theorem C0 (e : List FV) (h : Fits NK e) : parse (line e) = some e := by
  unfold parse;have h1 := It NK [] [] e ((line e).length + 1) rfl rfl h (by have := JA NK e; unfold line; omega);rw [List.nil_append, List.nil_append] at h1;rw [show loopF ((line e).length + 1) (zeros NK) (line e, false) = some (e, ([], false)) from h1];simp
theorem F8 {s : Str} {e : List FV} (h : parse s = some e) : line e = s := by
  unfold parse at h;split at h
  · cases h
  · split at h
    · cases h
    · rename_i hn
      injection h with h;subst h;exact Decidable.byContradiction fun h2 => hn (.inr h2)
theorem Bn (t : Str) (r : RS) : (eat t r).1.length ≤ r.1.length := by
  unfold eat;split
  · simp
  · exact Nat.le_refl _
theorem Dl (t : Str) (r : RS) : (has t r).2.1.length ≤ r.1.length ∧ ((has t r).1 = true → (has t r).2.1.length + t.length = r.1.length ∧ r.2 = false) := by
  unfold has;split
  · rename_i h
    simp only [Bool.and_eq_true, Bool.not_eq_true'] at h;have hp : t <+: r.1 := by have := h.2; unfold Go.Lib.hasPrefix at this; exact List.isPrefixOf_iff_prefix.1 this
    have := hp.length_le;simp only [List.length_drop];exact ⟨by omega, fun _ => ⟨by omega, h.1⟩⟩
  · exact ⟨Nat.le_refl _, fun h => by cases h⟩
theorem OX (p : UInt8 → Bool) (l : Str) : (l.dropWhile p).length ≤ l.length := (List.dropWhile_sublist p).length_le
theorem Bd (r : RS) : (rnum r).2.1.length ≤ r.1.length := by
  unfold rnum;split
  · exact OX _ _
  · exact Nat.le_refl _
theorem Kk {l o q : Str} (h : At l = some (o, q)) : q.length < l.length := by
  rw [Bm h];unfold quote;simp;omega
theorem BY (r : RS) : (rtext r).2.1.length ≤ r.1.length := by
  unfold rtext;split
  · rename_i p h
    have := Kk (o := p.1) (q := p.2) h;simp only;omega
  · exact Nat.le_refl _
theorem Dd {α : Type} (one : RS → α × RS) (h1 : ∀ r, (one r).2.1.length ≤ r.1.length) : ∀ (n : Nat) (r : RS), (Au one n r).2.1.length ≤ r.1.length
  | 0, r => Nat.le_refl _
  | n + 1, r => by
    have h2 := h1 r;have h3 := (Dl [44] (one r).2).1;unfold Au;split
    · have := Dd one h1 n (has [44] (one r).2).2
      simp only;omega
    · simp only
      omega
theorem FN {α : Type} (one : RS → α × RS) (h1 : ∀ r, (one r).2.1.length ≤ r.1.length) : ∀ (n m : Nat) (r : RS), r.1.length < n → r.1.length < m → Au one n r = Au one m r
  | 0, _, _, h, _ => by omega
  | _ + 1, 0, _, _, h => by omega
  | n + 1, m + 1, r, hn, hm => by
    have h2 := h1 r;unfold Au;split
    · rename_i h
      have h3 := (Dl [44] (one r).2).2 h;simp only [List.length_cons, List.length_nil] at h3;rw [FN one h1 n m _ (by omega) (by omega)]
    · rfl
theorem Et (r : RS) : (rusr r).2.1.length ≤ r.1.length := by
  have h1 := BY r;have h2 := Bn [58] (rtext r).2;have h3 := Bd (eat [58] (rtext r).2);show (rnum (eat [58] (rtext r).2)).2.1.length ≤ _;omega
theorem Ev (r : RS) : (rknd r).2.1.length ≤ r.1.length := by
  have h1 := Bd r;have h2 := Bn [58] (rnum r).2;have h3 := Bd (eat [58] (rnum r).2);show (rnum (eat [58] (rnum r).2)).2.1.length ≤ _;omega
theorem FF (k : FK) (r : RS) : (readK k r).2.1.length ≤ r.1.length := by
  cases k with
  | num => exact Bd r
  | txt => exact BY r
  | flg => exact Nat.le_refl _
  | nums => exact Dd _ Bd _ r
  | txts => exact Dd _ BY _ r
  | usrs => exact Dd _ Et _ r
  | knds => exact Dd _ Ev _ r
theorem Kp (r : RS) : (word r).1.length + (word r).2.1.length = r.1.length := by
  show (r.1.takeWhile az).length + (r.1.dropWhile az).length = _;rw [← List.length_append, List.takeWhile_append_dropWhile]
theorem GO {w : Str} {i : Nat} (h : NK.findIdx? (fun p => decide (p.1 = w)) = some i) : w ≠ [] ∧ i < 29 := by
  obtain ⟨hi, h1, _⟩ := List.findIdx?_eq_some_iff_getElem.1 h;have h2 := of_decide_eq_true h1;have h3 := NK_az NK[i] (List.getElem_mem hi);rw [h2] at h3;exact ⟨h3.1, hi⟩
def CB (i : Nat) (e : List FV) (r : RS) : List FV × RS :=
  let k := ((NK[i]?).map (·.2)).getD .num
  let r2 := if isFlg k then (word r).2 else eat [61] (word r).2
  let p := if r2.2 then (e, r2) else (e.set i (readK k r2).1, (readK k r2).2)
  (p.1, if p.2.1 = [] then p.2 else eat [32] p.2)
theorem Cn {i : Nat} {e : List FV} {r : RS} (h : (word r).1 ≠ []) : (CB i e r).2.1.length < r.1.length := by
  have h1 := Kp r;have h2 := List.length_pos_iff.2 h;have h3 : (if isFlg (((NK[i]?).map (·.2)).getD .num) then (word r).2 else eat [61] (word r).2).1.length ≤ (word r).2.1.length := by
    split
    · exact Nat.le_refl _
    · exact Bn _ _
  unfold CB;simp only;generalize (if isFlg (((NK[i]?).map (·.2)).getD .num) then (word r).2 else eat [61] (word r).2) = r2 at *;have h4 := FF (((NK[i]?).map (·.2)).getD .num) r2;generalize ((NK[i]?).map (·.2)).getD .num = k at *;have h5 : (if r2.2 then (e, r2) else (e.set i (readK k r2).1, (readK k r2).2)).2.1.length ≤ r2.1.length := by
    split
    · exact Nat.le_refl _
    · exact h4
  generalize (if r2.2 then (e, r2) else (e.set i (readK k r2).1, (readK k r2).2)) = p at *;have h6 : (if p.2.1 = [] then p.2 else eat [32] p.2).1.length ≤ p.2.1.length := by
    split
    · exact Nat.le_refl _
    · exact Bn _ _
  omega
theorem Dh (n : Nat) (e : List FV) (r : RS) : loopF (n + 1) e r = if r.1 = [] ∨ r.2 = true then some (e, r) else
    match NK.findIdx? (fun p => decide (p.1 = (word r).1)) with
    | none => none
    | some i => loopF n (CB i e r).1 (CB i e r).2 := rfl
theorem Gj : ∀ (n m : Nat) (e : List FV) (r : RS), r.1.length < n → r.1.length < m → loopF n e r = loopF m e r
  | 0, _, _, _, h, _ => by omega
  | _ + 1, 0, _, _, _, h => by omega
  | n + 1, m + 1, e, r, hn, hm => by
    rw [Dh, Dh];split
    · rfl
    · split
      · rfl
      · rename_i i hi
        have := Cn (i := i) (e := e) (GO hi).1;exact Gj n m _ _ (by omega) (by omega)
def loopG (e : List FV) (r : RS) : Option (List FV × RS) := loopF (r.1.length + 1) e r
theorem NZ {e : List FV} {r : RS} (h : r.1 = [] ∨ r.2 = true) : loopG e r = some (e, r) := by unfold loopG; rw [Dh, if_pos h]
theorem MD {e : List FV} {r : RS} (h : ¬ (r.1 = [] ∨ r.2 = true)) (h2 : NK.findIdx? (fun p => decide (p.1 = (word r).1)) = none) : loopG e r = none := by unfold loopG; rw [Dh, if_neg h, h2]
theorem Lh {e : List FV} {r : RS} {i : Nat} (h : ¬ (r.1 = [] ∨ r.2 = true)) (h2 : NK.findIdx? (fun p => decide (p.1 = (word r).1)) = some i) : loopG e r = loopG (CB i e r).1 (CB i e r).2 := by
  have h3 := Cn (i := i) (e := e) (GO h2).1;unfold loopG;rw [Dh, if_neg h, h2];exact Gj _ _ _ _ (by omega) (by omega)
end Ar
namespace Ar
def lines : Str → List Str
 | [] => [[]]
 | c :: s => if c = 10 then [] :: lines s else match lines s with
  | l :: r => (c :: l) :: r
  | [] => [[c]]
theorem Es : ∀ s : Str, lines s ≠ []
 | [] => by simp [lines]
 | c :: s => by
  unfold lines;split
  ·simp
  ·split <;> simp
def Dm : List Str → Str
 | [] => []
 | [l] => l
 | l :: m :: r => l ++ 10 :: Dm (m :: r)
theorem FR : ∀ s : Str, Dm (lines s) = s
 | [] => rfl
 | c :: s => by
  have ih := FR s;have hne := Es s;unfold lines;split
  ·rename_i h
   cases hl : lines s with
   | nil => exact absurd hl hne
   | cons l r =>
    rw [hl] at ih;show [] ++ 10 :: Dm (l :: r) = _;rw [ih, h];rfl
  ·cases hl : lines s with
   | nil => exact absurd hl hne
   | cons l r =>
    rw [hl] at ih
    cases r with
    | nil =>
     have ih' : l = s := ih;show c :: l = _;rw [ih']
    | cons m r =>
     show (c :: l) ++ 10 :: Dm (m :: r) = c :: s;have ih' : l ++ 10 :: Dm (m :: r) = s := ih;rw [← ih'];rfl
theorem Ma : ∀ (s : Str), ∀ l ∈ lines s, (10 : UInt8) ∉ l
 | [], l, h => by simp [lines] at h; subst h; simp
 | c :: s, l, h => by
  have ih := Ma s;unfold lines at h;split at h
  ·simp only [List.mem_cons] at h;rcases h with rfl | h
   ·simp
   ·exact ih l h
  ·rename_i hc
   cases hl : lines s with
   | nil => rw [hl] at h; simp at h; subst h; simp; exact fun e => hc e.symm
   | cons m r =>
    rw [hl] at h ih;simp only [List.mem_cons] at h;rcases h with rfl | h
    ·have := ih m (by simp);simp only [List.mem_cons, not_or];exact ⟨fun e => hc e.symm, this⟩
    ·exact ih l (by simp [h])
theorem Ec : ∀ (s : Str), (10 : UInt8) ∉ s → lines s = [s]
 | [], _ => rfl
 | c :: s, h => by
  simp only [List.mem_cons, not_or] at h;unfold lines;rw [if_neg (fun e => h.1 e.symm), Ec s h.2]
theorem EL : ∀ (l : Str) (s : Str), (10 : UInt8) ∉ l → lines (l ++ 10 :: s) = l :: lines s
 | [], s, _ => by simp [lines]
 | c :: l, s, h => by
  simp only [List.mem_cons, not_or] at h;show lines (c :: (l ++ 10 :: s)) = _;rw [lines, if_neg (fun e => h.1 e.symm), EL l s h.2]
theorem DC : ∀ s : Str, (lines s).length ≤ s.length + 1
 | [] => by simp [lines]
 | c :: s => by
  have ih := DC s;unfold lines;split
  ·simp; omega
  ·cases hl : lines s with
   | nil => simp
   | cons l r => rw [hl] at ih; simp at ih ⊢; omega
theorem Cj : ∀ s : Str, ∀ l ∈ lines s, l.length ≤ s.length
 | [], l, h => by simp [lines] at h; subst h; simp
 | c :: s, l, h => by
  have ih := Cj s;unfold lines at h;split at h
  ·simp only [List.mem_cons] at h;rcases h with rfl | h
   ·simp
   ·have := ih l h; simp; omega
  ·cases hl : lines s with
   | nil => rw [hl] at h; simp at h; subst h; simp
   | cons m r =>
    rw [hl] at h ih;simp only [List.mem_cons] at h;rcases h with rfl | h
    ·have := ih m (by simp); simp; omega
    ·have := ih l (by simp [h]); simp; omega
def dis : List Str → List Str → Nat
 | [], y => y.length
 | a :: x, [] => (a :: x).length
 | a :: x, b :: y => if a = b then dis x y else 1 + min (dis x (b :: y)) (dis (a :: x) y)
termination_by x y => x.length + y.length
theorem EK (y : List Str) : dis [] y = y.length := by unfold dis; rfl
theorem Ej (x : List Str) : dis x [] = x.length := by cases x <;> (unfold dis; rfl)
theorem GR (a : Str) (x y : List Str) : dis (a :: x) (a :: y) = dis x y := by rw [dis, if_pos rfl]
theorem F4 {a b : Str} (x y : List Str) (h : a ≠ b) : dis (a :: x) (b :: y) = 1 + min (dis x (b :: y)) (dis (a :: x) y) := by rw [dis, if_neg h]
theorem Ib : ∀ (n : Nat) (x y : List Str), x.length + y.length ≤ n → dis x y = dis y x
 | n, [], y, _ => by rw [EK, Ej]
 | n, a :: x, [], _ => by rw [EK, Ej]
 | 0, a :: x, b :: y, h => by simp at h
 | n + 1, a :: x, b :: y, h => by
  simp only [List.length_cons] at h;by_cases e : a = b
  ·subst e; rw [GR, GR, Ib n x y (by omega)]
  ·rw [F4 _ _ e, F4 _ _ (fun e2 => e e2.symm), Ib n x (b :: y) (by simp only [List.length_cons]; omega), Ib n (a :: x) y (by simp only [List.length_cons]; omega), Nat.min_comm]
def best : List Str → List Str → Nat
 | [], _ => 0
 | _ :: _, [] => 0
 | a :: x, b :: y => if a = b then best x y + 1 else max (best x (b :: y)) (best (a :: x) y)
termination_by x y => x.length + y.length
theorem P4 (y : List Str) : best [] y = 0 := by unfold best; rfl
theorem Oj (x : List Str) : best x [] = 0 := by cases x <;> (unfold best; rfl)
theorem RC (a : Str) (x y : List Str) : best (a :: x) (a :: y) = best x y + 1 := by rw [best, if_pos rfl]
theorem Rb {a b : Str} (x y : List Str) (h : a ≠ b) : best (a :: x) (b :: y) = max (best x (b :: y)) (best (a :: x) y) := by rw [best, if_neg h]
theorem Gq : ∀ (n : Nat) (x y : List Str), x.length + y.length ≤ n → dis x y + 2 * best x y = x.length + y.length
 | n, [], y, _ => by rw [EK, P4]; simp
 | n, a :: x, [], _ => by rw [Ej, Oj]; simp
 | 0, a :: x, b :: y, h => by simp at h
 | n + 1, a :: x, b :: y, h => by
  simp only [List.length_cons] at h ⊢;by_cases e : a = b
  ·subst e;have := Gq n x y (by omega);rw [GR, RC];omega
  ·have h1 := Gq n x (b :: y) (by simp only [List.length_cons]; omega);have h2 := Gq n (a :: x) y (by simp only [List.length_cons]; omega);simp only [List.length_cons] at h1 h2;rw [F4 _ _ e, Rb _ _ e];omega
theorem RG (x y : List Str) : dis x y ≤ x.length + y.length := by have := Gq _ x y (Nat.le_refl _); omega
end Ar
