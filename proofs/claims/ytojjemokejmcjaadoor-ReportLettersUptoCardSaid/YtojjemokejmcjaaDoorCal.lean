/- Plain facts on the proleptic Gregorian calendar: day numbers, dates, that a day has one date. No program, no memory. -/
namespace Arr.Cal

/-- Is y a leap year of the calendar without bounds? -/
def leapB (y : Int) : Bool := decide (y % 4 = 0) && (!decide (y % 100 = 0) || decide (y % 400 = 0))
def lp (y : Int) : Int := if leapB y = true then 1 else 0
def aheadL : List Int := [0, 31, 59, 90, 120, 151, 181, 212, 243, 273, 304, 334, 365]
/-- Days of a common year ahead of month k + 1. -/
def ahead (k : Int) : Int := aheadL.getD k.toNat 0
/-- Days of year y ahead of month m. -/
def st (y m : Int) : Int := ahead (m - 1) + if 2 < m then lp y else 0
/-- Days of month m. -/
def ml (y m : Int) : Int := st y (m + 1) - st y m
/-- Days ahead of year y. -/
def ys (y : Int) : Int := 365 * (y - 1) + (y - 1) / 4 - (y - 1) / 100 + (y - 1) / 400
def num (y m d : Int) : Int := ys y + st y m + d
def Valid (y m d : Int) : Prop := 1 ≤ y ∧ y ≤ 9999 ∧ 1 ≤ m ∧ m ≤ 12 ∧ 1 ≤ d ∧ d ≤ ml y m

theorem leapB_iff (y : Int) : leapB y = true ↔ (y % 4 = 0 ∧ (y % 100 ≠ 0 ∨ y % 400 = 0)) := by
  unfold leapB; simp
theorem lp_of (y : Int) (h : y % 4 = 0 ∧ (y % 100 ≠ 0 ∨ y % 400 = 0)) : lp y = 1 := by
  unfold lp; rw [if_pos ((leapB_iff y).2 h)]
theorem lp_not (y : Int) (h : ¬ (y % 4 = 0 ∧ (y % 100 ≠ 0 ∨ y % 400 = 0))) : lp y = 0 := by
  unfold lp; rw [if_neg (fun e => h ((leapB_iff y).1 e))]
theorem lp_01 (y : Int) : lp y = 0 ∨ lp y = 1 := by unfold lp; split <;> simp
theorem ys_succ (y : Int) : ys (y + 1) = ys y + 365 + lp y := by
  by_cases h : y % 4 = 0 ∧ (y % 100 ≠ 0 ∨ y % 400 = 0)
  · rw [lp_of y h]; unfold ys; omega
  · rw [lp_not y h]; unfold ys; omega
theorem ys_mono (a b : Int) (h : a ≤ b) : ys a ≤ ys b := by unfold ys; omega

theorem ahead_cases (k : Int) (h0 : 0 ≤ k) (h1 : k ≤ 12) :
    (k = 0 ∧ ahead k = 0) ∨ (k = 1 ∧ ahead k = 31) ∨ (k = 2 ∧ ahead k = 59) ∨ (k = 3 ∧ ahead k = 90) ∨ (k = 4 ∧ ahead k = 120) ∨ (k = 5 ∧ ahead k = 151) ∨ (k = 6 ∧ ahead k = 181) ∨ (k = 7 ∧ ahead k = 212) ∨ (k = 8 ∧ ahead k = 243) ∨ (k = 9 ∧ ahead k = 273) ∨ (k = 10 ∧ ahead k = 304) ∨ (k = 11 ∧ ahead k = 334) ∨ (k = 12 ∧ ahead k = 365) := by
  have : k = 0 ∨ k = 1 ∨ k = 2 ∨ k = 3 ∨ k = 4 ∨ k = 5 ∨ k = 6 ∨ k = 7 ∨ k = 8 ∨ k = 9 ∨ k = 10 ∨ k = 11 ∨ k = 12 := by omega
  rcases this with rfl | rfl | rfl | rfl | rfl | rfl | rfl | rfl | rfl | rfl | rfl | rfl | rfl <;> decide

theorem st_one (y : Int) : st y 1 = 0 := by unfold st; rw [if_neg (by omega)]; decide
theorem st_thirteen (y : Int) : st y 13 = 365 + lp y := by
  unfold st; rw [if_pos (by omega)]; rw [show ahead (13 - 1) = 365 from by decide]
theorem st_step (y m : Int) (h1 : 1 ≤ m) (h2 : m ≤ 12) : st y m + 28 ≤ st y (m + 1) ∧ st y (m + 1) ≤ st y m + 31 := by
  have a := ahead_cases (m - 1) (by omega) (by omega)
  have b := ahead_cases (m + 1 - 1) (by omega) (by omega)
  have l := lp_01 y
  unfold st
  by_cases c : 2 < m
  · rw [if_pos c, if_pos (by omega)]; omega
  · by_cases c2 : 2 < m + 1
    · rw [if_neg c, if_pos c2]; omega
    · rw [if_neg c, if_neg c2]; omega
theorem st_mono (y m m' : Int) (h1 : 1 ≤ m) (h : m ≤ m') (h2 : m' ≤ 13) : st y m ≤ st y m' := by
  have a := ahead_cases (m - 1) (by omega) (by omega)
  have b := ahead_cases (m' - 1) (by omega) (by omega)
  have l := lp_01 y
  unfold st
  by_cases c : 2 < m
  · rw [if_pos c, if_pos (by omega)]; omega
  · by_cases c2 : 2 < m'
    · rw [if_neg c, if_pos c2]; omega
    · rw [if_neg c, if_neg c2]; omega
theorem st_range (y m : Int) (h1 : 1 ≤ m) (h2 : m ≤ 13) : 0 ≤ st y m ∧ st y m ≤ 366 := by
  have a := st_mono y 1 m (by omega) h1 h2
  have b := st_mono y m 13 h1 h2 (by omega)
  rw [st_one] at a; rw [st_thirteen] at b
  have l := lp_01 y
  omega
theorem ml_range (y m : Int) (h1 : 1 ≤ m) (h2 : m ≤ 12) : 28 ≤ ml y m ∧ ml y m ≤ 31 := by
  have := st_step y m h1 h2; unfold ml; omega
/-- The length of a month as a rule by cases. -/
theorem ml_eq (y m : Int) (h1 : 1 ≤ m) (h2 : m ≤ 12) : ml y m = if m = 2 then 28 + lp y else if m = 4 ∨ m = 6 ∨ m = 9 ∨ m = 11 then 30 else 31 := by
  have : m = 1 ∨ m = 2 ∨ m = 3 ∨ m = 4 ∨ m = 5 ∨ m = 6 ∨ m = 7 ∨ m = 8 ∨ m = 9 ∨ m = 10 ∨ m = 11 ∨ m = 12 := by omega
  unfold ml st
  rcases this with rfl | rfl | rfl | rfl | rfl | rfl | rfl | rfl | rfl | rfl | rfl | rfl <;> simp [ahead, aheadL] <;> omega

theorem num_bd {y m d : Int} (h : Valid y m d) : ys y < num y m d ∧ num y m d ≤ ys (y + 1) := by
  obtain ⟨a, b, c, e, f, g⟩ := h
  have s1 := st_range y m c (by omega)
  have s2 := st_mono y (m + 1) 13 (by omega) (by omega) (by omega)
  rw [st_thirteen] at s2
  rw [ys_succ]
  unfold ml at g; unfold num; omega
theorem num_range {y m d : Int} (h : Valid y m d) : 1 ≤ num y m d ∧ num y m d ≤ 3652059 := by
  have a := num_bd h
  have b := ys_mono 1 y h.1
  have c := ys_mono (y + 1) 10000 (by have := h.2.1; omega)
  have e1 : ys 1 = 0 := by decide
  have e2 : ys 10000 = 3652059 := by decide
  omega
/-- A day has one date. -/
theorem num_inj {y m d y' m' d' : Int} (h : Valid y m d) (h' : Valid y' m' d') (e : num y m d = num y' m' d') : y = y' ∧ m = m' ∧ d = d' := by
  have a := num_bd h
  have a' := num_bd h'
  have ey : y = y' := by
    rcases Int.lt_trichotomy y y' with l | l | l
    · have := ys_mono (y + 1) y' (by omega); omega
    · exact l
    · have := ys_mono (y' + 1) y (by omega); omega
  subst ey
  obtain ⟨-, -, c, g, f, q⟩ := h
  obtain ⟨-, -, c', g', f', q'⟩ := h'
  unfold num ml at *
  have em : m = m' := by
    rcases Int.lt_trichotomy m m' with l | l | l
    · have := st_mono y (m + 1) m' (by omega) (by omega) (by omega); omega
    · exact l
    · have := st_mono y (m' + 1) m (by omega) (by omega) (by omega); omega
  subst em
  exact ⟨rfl, rfl, by omega⟩

theorem leap_of (a h f o : Int) (o3 : o = 3) (f0 : 0 ≤ f) (f1 : f ≤ 24) (h24 : f = 24 → h = 3) : lp (400 * a + 1 + (100 * h + 4 * f + o)) = 1 := by
  subst o3
  refine lp_of _ ⟨?_, ?_⟩
  · rw [show 400 * a + 1 + (100 * h + 4 * f + 3) = 4 * (100 * a + 25 * h + f + 1) by omega]; omega
  · by_cases e : f = 24
    · right
      have := h24 e
      rw [show 400 * a + 1 + (100 * h + 4 * f + 3) = 400 * (a + 1) by omega]; omega
    · left
      rw [show 400 * a + 1 + (100 * h + 4 * f + 3) = 100 * (4 * a + h) + (4 * f + 4) by omega]; omega

/-- The year that the whole cycles, centuries, fours and years give. -/
theorem year_of (n : Int) (h1 : 1 ≤ n) (h2 : n ≤ 3652059) (a r h r2 f r3 o r4 : Int)
    (ha : a = (n - 1) / 146097) (hr : r = (n - 1) % 146097) (hh : h = min (r / 36524) 3) (hr2 : r2 = r - h * 36524)
    (hf : f = r2 / 1461) (hr3 : r3 = r2 % 1461) (ho : o = min (r3 / 365) 3) (hr4 : r4 = r3 - o * 365) :
    1 ≤ 400 * a + 1 + (100 * h + 4 * f + o) ∧ 400 * a + 1 + (100 * h + 4 * f + o) ≤ 9999 ∧ ys (400 * a + 1 + (100 * h + 4 * f + o)) = n - 1 - r4 ∧ 0 ≤ r4 ∧ r4 < 365 + lp (400 * a + 1 + (100 * h + 4 * f + o)) := by
  have b1 : 0 ≤ r ∧ r < 146097 := by omega
  have b2 : 0 ≤ h ∧ h ≤ 3 := by omega
  have b3 : 0 ≤ r2 ∧ r2 ≤ 36524 ∧ (h < 3 → r2 < 36524) := by omega
  have b4 : 0 ≤ f ∧ f ≤ 24 := by omega
  have b5 : 0 ≤ r3 ∧ r3 < 1461 ∧ (f = 24 → h < 3 → r3 < 1460) := by omega
  have b6 : 0 ≤ o ∧ o ≤ 3 := by omega
  have b7 : 0 ≤ r4 ∧ r4 ≤ 365 ∧ (o < 3 → r4 < 365) := by omega
  have b8 : 0 ≤ a ∧ a ≤ 24 := by omega
  have q4 : (400 * a + 1 + (100 * h + 4 * f + o) - 1) / 4 = 100 * a + 25 * h + f := by omega
  have q100 : (400 * a + 1 + (100 * h + 4 * f + o) - 1) / 100 = 4 * a + h := by omega
  have q400 : (400 * a + 1 + (100 * h + 4 * f + o) - 1) / 400 = a := by omega
  have hys : ys (400 * a + 1 + (100 * h + 4 * f + o)) = n - 1 - r4 := by
    unfold ys; rw [q4, q100, q400]; omega
  refine ⟨by omega, ?_, hys, by omega, ?_⟩
  · by_cases c : 400 * a + 1 + (100 * h + 4 * f + o) ≤ 9999
    · exact c
    · have := ys_mono 10000 (400 * a + 1 + (100 * h + 4 * f + o)) (by omega)
      have e2 : ys 10000 = 3652059 := by decide
      omega
  · by_cases c : r4 < 365
    · have := lp_01 (400 * a + 1 + (100 * h + 4 * f + o)); omega
    · have o3 : o = 3 := by omega
      have h24 : f = 24 → h = 3 := fun f24 => by
        have q := b5.2.2 f24
        clear hys q4 q100 q400 b8 ha hr hh hr2 hf hr3
        rcases (show h < 3 ∨ 3 ≤ h by omega) with h3 | h3
        · have := q h3; clear q b5; omega
        · omega
      have l1 : lp (400 * a + 1 + (100 * h + 4 * f + o)) = 1 := leap_of a h f o o3 b4.1 b4.2 h24
      rw [l1]; omega

end Arr.Cal
