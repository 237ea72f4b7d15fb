/- Plain facts on letters: a notice's letter as a list of bytes, its runs of digits, and that no two notices have one letter. No program, no memory. -/
import Derived.Lib.ItoaNum
import Derived.Lib.AtoiAll
import Derived.Lib.Atoi
import Derived.Lib.IndexMore
namespace Arr.Let
open Go.Lib

def pN : List UInt8 := [78, 111, 116, 105, 99, 101, 32]
def pOf : List UInt8 := [32, 111, 102, 32]
def pCol : List UInt8 := [58, 32]
def fst (k : Int) : List UInt8 :=
  if k = 1 then [116, 104, 101, 32, 112, 114, 111, 109, 105, 115, 101, 32, 116, 111, 32, 112, 97, 121, 32, 111, 110, 32, 108, 111, 97, 110, 32] else if k = 2 then [108, 111, 97, 110, 32] else if k = 3 then [105, 110, 116, 101, 114, 101, 115, 116, 32, 111, 110, 32, 108, 111, 97, 110, 32] else if k = 4 then [108, 111, 97, 110, 32] else if k = 5 then [97, 32, 108, 97, 116, 101, 32, 102, 101, 101, 32, 111, 102, 32] else if k = 6 then [108, 111, 97, 110, 32] else if k = 7 then [108, 111, 97, 110, 32] else if k = 8 then [108, 111, 97, 110, 32] else if k = 9 then [97, 32, 112, 97, 121, 109, 101, 110, 116, 32, 111, 102, 32] else []
def mid (k : Int) : List UInt8 :=
  if k = 1 then [32, 119, 97, 115, 32, 110, 111, 116, 32, 107, 101, 112, 116, 59, 32] else if k = 2 then [32, 105, 115, 32, 105, 110, 32, 97, 114, 114, 101, 97, 114, 115, 59, 32] else if k = 3 then [32, 105, 115, 32, 104, 101, 108, 100, 32, 105, 110, 32, 115, 117, 115, 112, 101, 110, 115, 101, 32, 102, 114, 111, 109, 32, 110, 111, 119, 32, 111, 110, 59, 32] else if k = 4 then [32, 119, 97, 115, 32, 99, 104, 97, 114, 103, 101, 100, 32, 111, 102, 102, 59, 32] else if k = 5 then [32, 119, 97, 115, 32, 99, 104, 97, 114, 103, 101, 100, 32, 116, 111, 32, 108, 111, 97, 110, 32] else if k = 6 then [32, 105, 115, 32, 117, 112, 32, 116, 111, 32, 100, 97, 116, 101, 32, 97, 103, 97, 105, 110, 59, 32] else if k = 7 then [32, 104, 97, 115, 32, 97, 32, 110, 101, 119, 32, 112, 108, 97, 110, 59, 32, 105, 116, 32, 105, 115, 32, 111, 118, 101, 114, 32] else if k = 8 then [32, 105, 115, 32, 112, 97, 105, 100, 32, 111, 102, 102, 59, 32] else if k = 9 then [32, 111, 110, 32, 108, 111, 97, 110, 32] else []
def lst (k : Int) : List UInt8 :=
  if k = 1 then [32, 105, 115, 32, 112, 97, 115, 116, 32, 100, 117, 101, 46] else if k = 2 then [32, 105, 115, 32, 112, 97, 115, 116, 32, 100, 117, 101, 46] else if k = 3 then [32, 105, 115, 32, 112, 97, 115, 116, 32, 100, 117, 101, 46] else if k = 4 then [32, 119, 97, 115, 32, 111, 119, 101, 100, 46] else if k = 5 then [46] else if k = 6 then [32, 105, 115, 32, 112, 97, 115, 116, 32, 100, 117, 101, 46] else if k = 7 then [46] else if k = 8 then [32, 105, 115, 32, 111, 119, 101, 100, 46] else if k = 9 then [32, 119, 97, 115, 32, 114, 101, 116, 117, 114, 110, 101, 100, 46] else []
def af (k : Int) : Bool := decide (k = 5) || decide (k = 9)

def isD (c : UInt8) : Bool := decide (48 ≤ c.toNat) && decide (c.toNat ≤ 57)
def AllD (l : List UInt8) : Prop := ∀ c ∈ l, isD c = true
def NoD (l : List UInt8) : Prop := ∀ c ∈ l, isD c = false
/-- The runs of digits of a text, 'acc' the run under way. -/
def grp : List UInt8 → List UInt8 → List (List UInt8)
  | acc, [] => if acc = [] then [] else [acc]
  | acc, c :: r => if isD c = true then grp (acc ++ [c]) r else if acc = [] then grp [] r else acc :: grp [] r
def nd (l : List UInt8) : List UInt8 := l.filter fun c => !isD c
def val (acc : Nat) (l : List UInt8) : Nat := l.foldl (fun n c => 10 * n + (c.toNat - 48)) acc
theorem val_nil (acc : Nat) : val acc [] = acc := rfl
theorem val_cons (acc : Nat) (c : UInt8) (r : List UInt8) : val acc (c :: r) = val (10 * acc + (c.toNat - 48)) r := by
  unfold val; rw [List.foldl_cons]

theorem isD_of (n : Nat) (h : n < 10) : isD (UInt8.ofNat (48 + n)) = true := by
  have : (UInt8.ofNat (48 + n)).toNat = 48 + n := by simp; omega
  unfold isD; rw [this]; simp; omega
theorem AllD_nil : AllD [] := fun _ h => by cases h
theorem AllD_app {a b : List UInt8} (ha : AllD a) (hb : AllD b) : AllD (a ++ b) := fun c h => (List.mem_append.1 h).elim (ha c) (hb c)
theorem AllD_one (n : Nat) (h : n < 10) : AllD [UInt8.ofNat (48 + n)] := fun c hc => by
  rw [List.mem_singleton] at hc; rw [hc]; exact isD_of n h
theorem decDigits_small (u : Nat) (h : u < 10) : decDigits u = [UInt8.ofNat (48 + u)] := by rw [decDigits, dif_pos h]
theorem decDigits_big (u : Nat) (h : ¬ u < 10) : decDigits u = decDigits (u / 10) ++ [UInt8.ofNat (48 + u % 10)] := by rw [decDigits, dif_neg h]
theorem decDigits_D (u : Nat) : AllD (decDigits u) := by
  induction u using Nat.strongRecOn with
  | _ u ih =>
    by_cases h : u < 10
    · rw [decDigits_small u h]; exact AllD_one u h
    · rw [decDigits_big u h]; exact AllD_app (ih _ (by omega)) (AllD_one _ (by omega))
theorem decDigits_ne (u : Nat) : decDigits u ≠ [] := by
  by_cases h : u < 10
  · rw [decDigits_small u h]; simp
  · rw [decDigits_big u h]; simp
theorem val_app (a b : List UInt8) : ∀ acc, val acc (a ++ b) = val (val acc a) b := by
  intro acc; unfold val; rw [List.foldl_append]
theorem val_one (acc n : Nat) (h : n < 10) : val acc [UInt8.ofNat (48 + n)] = 10 * acc + n := by
  have : (UInt8.ofNat (48 + n)).toNat = 48 + n := by simp; omega
  rw [val_cons, val_nil, this, Nat.add_sub_cancel_left]
theorem val_dec (u : Nat) : val 0 (decDigits u) = u := by
  induction u using Nat.strongRecOn with
  | _ u ih =>
    by_cases h : u < 10
    · rw [decDigits_small u h, val_one _ _ h]; omega
    · rw [decDigits_big u h, val_app, ih _ (by omega), val_one _ _ (by omega)]; omega
theorem dec_inj {u v : Nat} (h : decDigits u = decDigits v) : u = v := by
  rw [← val_dec u, ← val_dec v, h]

/-- w digits of x. -/
def pad : Nat → Nat → List UInt8
  | 0, _ => []
  | w + 1, x => pad w (x / 10) ++ [UInt8.ofNat (48 + x % 10)]
theorem pad_D (w : Nat) : ∀ x, AllD (pad w x) := by
  induction w with
  | zero => intro x; exact AllD_nil
  | succ w ih => intro x; exact AllD_app (ih _) (AllD_one _ (by omega))
theorem pad_length (w : Nat) : ∀ x, (pad w x).length = w := by
  induction w with
  | zero => intro x; rfl
  | succ w ih => intro x; simp [pad, ih]
theorem val_pad (w : Nat) : ∀ x, x < 10 ^ w → val 0 (pad w x) = x := by
  induction w with
  | zero => intro x h; simp only [Nat.pow_zero] at h; simp only [pad, val_nil]; omega
  | succ w ih =>
    intro x h
    rw [Nat.pow_succ] at h
    simp only [pad]
    rw [val_app, ih _ (by omega), val_one _ _ (by omega)]; omega
theorem pad_ne (w : Nat) (h : 0 < w) (x : Nat) : pad w x ≠ [] := fun e => by
  have := pad_length w x; rw [e] at this; simp at this; omega

theorem grp_digits (ds r : List UInt8) (h : AllD ds) : ∀ acc, grp acc (ds ++ r) = grp (acc ++ ds) r := by
  induction ds with
  | nil => intro acc; simp
  | cons c t ih =>
    intro acc
    simp only [List.cons_append, grp]
    rw [if_pos (h c (by simp)), ih (fun x hx => h x (by simp [hx]))]; simp
theorem grp_non (ns r : List UInt8) (h : NoD ns) : grp [] (ns ++ r) = grp [] r := by
  induction ns with
  | nil => rfl
  | cons c t ih =>
    simp only [List.cons_append, grp]
    rw [if_neg (by rw [h c (by simp)]; simp), if_pos trivial, ih (fun x hx => h x (by simp [hx]))]
theorem grp_cut (ns r acc : List UInt8) (h : NoD ns) (hn : ns ≠ []) (ha : acc ≠ []) : grp acc (ns ++ r) = acc :: grp [] r := by
  cases ns with
  | nil => exact absurd rfl hn
  | cons c t =>
    simp only [List.cons_append, grp]
    rw [if_neg (by rw [h c (by simp)]; simp), if_neg ha, grp_non t r (fun x hx => h x (by simp [hx]))]
/-- A run of digits, and what is no digit behind it. -/
theorem grp_run (ds ns r : List UInt8) (hd : AllD ds) (hd0 : ds ≠ []) (h : NoD ns) (hn : ns ≠ []) : grp [] (ds ++ (ns ++ r)) = ds :: grp [] r := by
  rw [grp_digits ds _ hd, List.nil_append, grp_cut ns r ds h hn hd0]
theorem nd_D (l : List UInt8) (h : AllD l) : nd l = [] := by
  unfold nd; rw [List.filter_eq_nil_iff]; intro c hc; rw [h c hc]; simp
theorem nd_app (a b : List UInt8) : nd (a ++ b) = nd a ++ nd b := by unfold nd; rw [List.filter_append]

def cents (c : Nat) : List UInt8 := pad 2 c
/-- An amount that is not below 0: units, a point, two digits of cents. -/
def amt (x : Nat) : List UInt8 := decDigits (x / 100) ++ ([46] ++ cents (x % 100))
def date (y m d : Nat) : List UInt8 := pad 4 y ++ ([45] ++ (pad 2 m ++ ([45] ++ pad 2 d)))
/-- The sentence of a kind. -/
def sent (k : Int) (loan x : Nat) : List UInt8 :=
  fst k ++ (if af k = true then amt x ++ (mid k ++ (decDigits loan ++ lst k)) else decDigits loan ++ (mid k ++ (amt x ++ lst k)))
def letter (id y m d : Nat) (k : Int) (loan x : Nat) : List UInt8 :=
  pN ++ (decDigits id ++ (pOf ++ (date y m d ++ (pCol ++ sent k loan x))))

theorem kinds (k : Int) (h1 : 1 ≤ k) (h2 : k ≤ 9) : k = 1 ∨ k = 2 ∨ k = 3 ∨ k = 4 ∨ k = 5 ∨ k = 6 ∨ k = 7 ∨ k = 8 ∨ k = 9 := by omega
def chk (l : List UInt8) : Bool := l.all fun c => !isD c
theorem NoD_of (l : List UInt8) (h : chk l = true) : NoD l := fun c hc => by
  have := List.all_eq_true.1 h c hc; simpa using this
theorem fst_N (k : Int) (h1 : 1 ≤ k) (h2 : k ≤ 9) : NoD (fst k) := by
  rcases kinds k h1 h2 with rfl | rfl | rfl | rfl | rfl | rfl | rfl | rfl | rfl <;> exact NoD_of _ (by decide +kernel)
theorem mid_N (k : Int) (h1 : 1 ≤ k) (h2 : k ≤ 9) : NoD (mid k) := by
  rcases kinds k h1 h2 with rfl | rfl | rfl | rfl | rfl | rfl | rfl | rfl | rfl <;> exact NoD_of _ (by decide +kernel)
theorem lst_N (k : Int) (h1 : 1 ≤ k) (h2 : k ≤ 9) : NoD (lst k) := by
  rcases kinds k h1 h2 with rfl | rfl | rfl | rfl | rfl | rfl | rfl | rfl | rfl <;> exact NoD_of _ (by decide +kernel)
theorem fst_ne (k : Int) (h1 : 1 ≤ k) (h2 : k ≤ 9) : fst k ≠ [] := by
  rcases kinds k h1 h2 with rfl | rfl | rfl | rfl | rfl | rfl | rfl | rfl | rfl <;> decide +kernel
theorem mid_ne (k : Int) (h1 : 1 ≤ k) (h2 : k ≤ 9) : mid k ≠ [] := by
  rcases kinds k h1 h2 with rfl | rfl | rfl | rfl | rfl | rfl | rfl | rfl | rfl <;> decide +kernel
theorem lst_ne (k : Int) (h1 : 1 ≤ k) (h2 : k ≤ 9) : lst k ≠ [] := by
  rcases kinds k h1 h2 with rfl | rfl | rfl | rfl | rfl | rfl | rfl | rfl | rfl <;> decide +kernel
theorem mid_head (k : Int) (h1 : 1 ≤ k) (h2 : k ≤ 9) : ∃ t, mid k = 32 :: t := by
  rcases kinds k h1 h2 with rfl | rfl | rfl | rfl | rfl | rfl | rfl | rfl | rfl <;> exact ⟨_, rfl⟩
/-- The letters of a sentence without its digits tell the kind. -/
def mark (k : Int) : List UInt8 := fst k ++ (if af k = true then [46] ++ (mid k ++ lst k) else mid k ++ ([46] ++ lst k))
theorem mark_inj (k k' : Int) (h1 : 1 ≤ k) (h2 : k ≤ 9) (h1' : 1 ≤ k') (h2' : k' ≤ 9) (e : mark k = mark k') : k = k' := by
  rcases kinds k h1 h2 with rfl | rfl | rfl | rfl | rfl | rfl | rfl | rfl | rfl <;>
  rcases kinds k' h1' h2' with rfl | rfl | rfl | rfl | rfl | rfl | rfl | rfl | rfl <;>
  first | rfl | exact absurd e (by decide +kernel)

theorem nd_N (l : List UInt8) (h : NoD l) : nd l = l := by
  unfold nd; rw [List.filter_eq_self]; intro c hc; rw [h c hc]; rfl
theorem N46 : NoD [46] := NoD_of _ (by decide +kernel)
theorem N45 : NoD [45] := NoD_of _ (by decide +kernel)
theorem pN_N : NoD pN := NoD_of _ (by decide +kernel)
theorem pOf_N : NoD pOf := NoD_of _ (by decide +kernel)
theorem pCol_N : NoD pCol := NoD_of _ (by decide +kernel)
theorem NoD_app {a b : List UInt8} (ha : NoD a) (hb : NoD b) : NoD (a ++ b) := fun c h => (List.mem_append.1 h).elim (ha c) (hb c)

theorem nd_sent (k : Int) (h1 : 1 ≤ k) (h2 : k ≤ 9) (loan x : Nat) : nd (sent k loan x) = mark k := by
  unfold sent mark amt cents
  cases af k with
  | true =>
    simp only [if_true, nd_app, nd_D _ (decDigits_D _), nd_D _ (pad_D _ _), nd_N _ (fst_N k h1 h2), nd_N _ (mid_N k h1 h2), nd_N _ (lst_N k h1 h2), nd_N _ N46, List.nil_append, List.append_nil]
  | false =>
    simp only [Bool.false_eq_true, if_false, nd_app, nd_D _ (decDigits_D _), nd_D _ (pad_D _ _), nd_N _ (fst_N k h1 h2), nd_N _ (mid_N k h1 h2), nd_N _ (lst_N k h1 h2), nd_N _ N46, List.nil_append, List.append_nil]
theorem nd_letter (k : Int) (h1 : 1 ≤ k) (h2 : k ≤ 9) (id y m d loan x : Nat) : nd (letter id y m d k loan x) = pN ++ (pOf ++ ([45] ++ ([45] ++ (pCol ++ mark k)))) := by
  unfold letter date
  simp only [nd_app, nd_sent k h1 h2, nd_D _ (decDigits_D _), nd_D _ (pad_D _ _), nd_N _ pN_N, nd_N _ pOf_N, nd_N _ pCol_N, nd_N _ N45, List.nil_append, List.append_assoc]

/-- The runs of digits of a sentence. -/
def sruns (k : Int) (loan x : Nat) : List (List UInt8) :=
  if af k = true then [decDigits (x / 100), cents (x % 100), decDigits loan] else [decDigits loan, decDigits (x / 100), cents (x % 100)]
theorem grp_last (ds ns : List UInt8) (hd : AllD ds) (hd0 : ds ≠ []) (h : NoD ns) (hn : ns ≠ []) : grp [] (ds ++ ns) = [ds] := by
  have := grp_run ds ns [] hd hd0 h hn
  rw [List.append_nil] at this; rw [this]; rfl
theorem grp_sent (k : Int) (h1 : 1 ≤ k) (h2 : k ≤ 9) (loan x : Nat) : grp [] (sent k loan x) = sruns k loan x := by
  unfold sent sruns amt cents
  rw [grp_non _ _ (fst_N k h1 h2)]
  cases af k with
  | true =>
    simp only [if_true, List.append_assoc]
    rw [grp_run _ _ _ (decDigits_D _) (decDigits_ne _) N46 (by simp), grp_run _ _ _ (pad_D _ _) (pad_ne 2 (by omega) _) (mid_N k h1 h2) (mid_ne k h1 h2), grp_last _ _ (decDigits_D _) (decDigits_ne _) (lst_N k h1 h2) (lst_ne k h1 h2)]
  | false =>
    simp only [Bool.false_eq_true, if_false, List.append_assoc]
    rw [grp_run _ _ _ (decDigits_D _) (decDigits_ne _) (mid_N k h1 h2) (mid_ne k h1 h2), grp_run _ _ _ (decDigits_D _) (decDigits_ne _) N46 (by simp), grp_last _ _ (pad_D _ _) (pad_ne 2 (by omega) _) (lst_N k h1 h2) (lst_ne k h1 h2)]
theorem grp_letter (k : Int) (h1 : 1 ≤ k) (h2 : k ≤ 9) (id y m d loan x : Nat) :
    grp [] (letter id y m d k loan x) = decDigits id :: pad 4 y :: pad 2 m :: pad 2 d :: sruns k loan x := by
  unfold letter date
  rw [grp_non _ _ pN_N]
  simp only [List.append_assoc]
  rw [grp_run _ _ _ (decDigits_D _) (decDigits_ne _) pOf_N (by decide), grp_run _ _ _ (pad_D _ _) (pad_ne 4 (by omega) _) N45 (by simp), grp_run _ _ _ (pad_D _ _) (pad_ne 2 (by omega) _) N45 (by simp)]
  have : pCol ++ sent k loan x = (pCol ++ fst k) ++ (if af k = true then amt x ++ (mid k ++ (decDigits loan ++ lst k)) else decDigits loan ++ (mid k ++ (amt x ++ lst k))) := by
    unfold sent; rw [List.append_assoc]
  rw [this, grp_run _ _ _ (pad_D _ _) (pad_ne 2 (by omega) _) (NoD_app pCol_N (fst_N k h1 h2)) (by intro e; have := congrArg List.length e; simp [pCol] at this)]
  have e2 := grp_sent k h1 h2 loan x
  unfold sent at e2
  rw [grp_non _ _ (fst_N k h1 h2)] at e2
  rw [e2]

/-- No two notices have one letter. -/
theorem letter_inj {id y m d loan x id' y' m' d' loan' x' : Nat} {k k' : Int} (h1 : 1 ≤ k) (h2 : k ≤ 9) (h1' : 1 ≤ k') (h2' : k' ≤ 9)
    (hy : y < 10000) (hm : m < 100) (hd : d < 100) (hy' : y' < 10000) (hm' : m' < 100) (hd' : d' < 100)
    (e : letter id y m d k loan x = letter id' y' m' d' k' loan' x') : id = id' ∧ y = y' ∧ m = m' ∧ d = d' ∧ k = k' ∧ loan = loan' ∧ x = x' := by
  have en : nd (letter id y m d k loan x) = nd (letter id' y' m' d' k' loan' x') := by rw [e]
  rw [nd_letter k h1 h2, nd_letter k' h1' h2'] at en
  have ek : k = k' := mark_inj k k' h1 h2 h1' h2' (by simpa using en)
  subst ek
  have eg : grp [] (letter id y m d k loan x) = grp [] (letter id' y' m' d' k loan' x') := by rw [e]
  rw [grp_letter k h1 h2, grp_letter k h1 h2] at eg
  simp only [List.cons.injEq] at eg
  obtain ⟨g1, g2, g3, g4, g5⟩ := eg
  have v2 : y = y' := by rw [← val_pad 4 y (by omega), g2, val_pad 4 y' (by omega)]
  have v3 : m = m' := by rw [← val_pad 2 m (by omega), g3, val_pad 2 m' (by omega)]
  have v4 : d = d' := by rw [← val_pad 2 d (by omega), g4, val_pad 2 d' (by omega)]
  have hx : ∀ u : Nat, val 0 (cents (u % 100)) = u % 100 := fun u => val_pad 2 _ (by omega)
  refine ⟨dec_inj g1, v2, v3, v4, rfl, ?_⟩
  unfold sruns at g5
  cases h : af k with
  | true =>
    rw [h] at g5
    simp only [if_true, List.cons.injEq] at g5
    have a := dec_inj g5.1
    have b : x % 100 = x' % 100 := by rw [← hx x, g5.2.1, hx x']
    exact ⟨dec_inj g5.2.2.1, by omega⟩
  | false =>
    rw [h] at g5
    simp only [Bool.false_eq_true, if_false, List.cons.injEq] at g5
    have a := dec_inj g5.2.1
    have b : x % 100 = x' % 100 := by rw [← hx x, g5.2.2.1, hx x']
    exact ⟨dec_inj g5.1, by omega⟩

/-- strings.Cut at the first place of a separator whose first byte does not stand ahead of it. -/
theorem cut_at (a t b : List UInt8) (c : UInt8) (h : ∀ x ∈ a, x ≠ c) : cut (a ++ (c :: t ++ b)) (c :: t) = (a, b, true) := by
  have hi : index (a ++ (c :: t ++ b)) (c :: t) = (a.length : Int) := by
    refine index_first (by simp) ?_ ?_
    · unfold occAt
      rw [List.drop_left]
      rw [List.isPrefixOf_iff_prefix]; exact List.prefix_append _ _
    · intro j hj
      unfold occAt
      rw [List.drop_append_of_le_length (by omega)]
      have : a.drop j = a[j] :: a.drop (j + 1) := by rw [List.drop_eq_getElem_cons hj]
      have hne : (c == a[j]) = false := by
        rw [beq_eq_false_iff_ne]; exact fun e => h a[j] (List.getElem_mem hj) e.symm
      rw [this]
      simp only [List.cons_append, List.isPrefixOf, hne, Bool.false_and]
  unfold cut
  rw [hi, if_pos (by omega)]
  simp only [Int.toNat_natCast, List.take_left]
  rw [← List.drop_drop, List.drop_left]
  simp

theorem val_le (l : List UInt8) : ∀ acc, acc ≤ val acc l := by
  induction l with
  | nil => intro acc; exact Nat.le_refl _
  | cons c r ih => intro acc; rw [val_cons]; exact Nat.le_trans (by omega) (ih _)
theorem isD_bd {c : UInt8} (h : isD c = true) : 48 ≤ c.toNat ∧ c.toNat ≤ 57 := by
  unfold isD at h; simpa using h
theorem parse_digits (l : List UInt8) : ∀ acc, AllD l → val acc l < 18446744073709551616 → parseUint10 acc l = .ok (val acc l) := by
  induction l with
  | nil => intro acc _ _; rfl
  | cons c r ih =>
    intro acc hD hv
    have hc := isD_bd (hD c (by simp))
    have hl := val_le r (10 * acc + (c.toNat - 48))
    rw [val_cons] at hv
    rw [val_cons]
    simp only [parseUint10]
    rw [if_pos hc, if_neg (by omega), if_neg (by omega), Nat.mul_comm acc 10]
    exact ih _ (fun x hx => hD x (by simp [hx])) hv
theorem atoi_dec (u : Nat) (h : u < 9223372036854775808) : atoiAll (decDigits u) = .ok (u : Int) := by
  have hD := decDigits_D u
  have hv := val_dec u
  have hne := decDigits_ne u
  generalize decDigits u = l at hD hv hne
  cases l with
  | nil => exact absurd rfl hne
  | cons c r =>
    have hc := isD_bd (hD c (by simp))
    have hp := parse_digits (c :: r) 0 hD (by omega)
    rw [hv] at hp
    unfold atoiAll
    simp only
    rw [if_neg (by omega)]
    have hm : parseMag (c :: r) = .ok u := by unfold parseMag; rw [if_neg (by simp)]; exact hp
    rw [hm]
    simp only
    rw [if_neg (by omega), if_neg (by omega), if_neg (by omega)]
theorem itoa_dec (u : Nat) : itoa (u : Int) = decDigits u := by
  unfold itoa; rw [if_neg (by omega), Int.toNat_natCast]

end Arr.Let
