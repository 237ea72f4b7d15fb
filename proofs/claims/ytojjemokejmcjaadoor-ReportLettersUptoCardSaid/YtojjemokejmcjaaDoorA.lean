/- The calendar's functions walked: package calendar and the reference's. -/
import Derived.Test.YtojjemokejmcjaaDoorBase
import Derived.Test.YtojjemokejmcjaaDoorCal
namespace Go.Proofs.YtojjemokejmcjaaDoor.RL
open Go.RowKit Arr

theorem gAhead : Tryd.prog.globalNamed "arrears/calendar.ahead" = some 0 := by kernel_rfl

/-- The table of the days ahead of each month lies where it is read. -/
def Tab (w : World) : Prop := ∀ i : Int, 0 ≤ i → i < 13 → w.cell? ⟨0, i.toNat, none⟩ = some (.int .i64 (Cal.ahead i))

set_option maxHeartbeats 400000 in
theorem leap_in (y : Int) (w : World) (h1 : 1 ≤ y) (h2 : y ≤ 9999) :
    Calls Tryd.prog 54 #[.int .i64 y] w fun e w' => e = .returned (.bool (Cal.leapB y)) ∧ w = w' := by
  go_enter Tryd.func54, Tryd.ntmps54
  go_wp2
  all_goals go_ret
  all_goals refine ⟨ret_bool ?_, rfl⟩
  all_goals rw [Bool.eq_iff_iff, Cal.leapB_iff]
  all_goals simp_all
  all_goals omega

set_option maxHeartbeats 400000 in
theorem start_any (y m : Int) (w : World) (h1 : 1 ≤ y) (h2 : y ≤ 9999) (h3 : 1 ≤ m) (h4 : m ≤ 13) (T : Tab w) :
    Calls Tryd.prog 44 #[.int .i64 y, .int .i64 m] w fun e w' => e = .returned (.int .i64 (Cal.st y m)) ∧ w = w' := by
  have hc : w.cell? ⟨0, m.toNat - 1, none⟩ = some (.int .i64 (Cal.ahead (m - 1))) := by
    rw [show m.toNat - 1 = (m - 1).toNat by omega]; exact T (m - 1) (by omega) (by omega)
  clear T
  have hb := Cal.ahead_cases (m - 1) (by omega) (by omega)
  have hb' : 0 ≤ Cal.ahead (m - 1) ∧ Cal.ahead (m - 1) ≤ 365 := by omega
  clear hb
  obtain ⟨hb1, hb2⟩ := hb'
  by_cases hm : 2 < m
  · cases hl : Cal.leapB y
    all_goals
      have L := leap_in y w h1 h2
      rw [hl] at L
      have HL := Lib.hid hl
      clear hl
      go_enter Tryd.func44, Tryd.ntmps44
      go_wp2_with (go_at_call 54; refine L.mono ?_; rintro e w' ⟨rfl, rfl⟩)
      go_ret
      refine ⟨ret_int ?_, rfl⟩
      unfold Cal.st Cal.lp
      rw [HL.out]
      simp [hm]
  · go_enter Tryd.func44, Tryd.ntmps44
    go_wp2
    go_ret
    refine ⟨ret_int ?_, rfl⟩
    unfold Cal.st
    rw [if_neg (by omega)]; omega

def mlenF (y m : Int) : Int := if 1 ≤ y ∧ y ≤ 9999 ∧ 1 ≤ m ∧ m ≤ 12 then Cal.ml y m else 0
set_option maxHeartbeats 400000 in
theorem mlen_out (y m : Int) (w : World) (h : ¬ (1 ≤ y ∧ y ≤ 9999 ∧ 1 ≤ m ∧ m ≤ 12)) :
    Calls Tryd.prog 53 #[.int .i64 y, .int .i64 m] w fun e w' => e = .returned (.int .i64 0) ∧ ∃ n, w' = w.drewN n := by
  go_enter Tryd.func53, Tryd.ntmps53
  go_wp2_with fail
  all_goals go_ret
  all_goals exact ⟨rfl, 0, rfl⟩

theorem ml_two (y : Int) : Cal.ml y 2 = Cal.ahead 2 - Cal.ahead 1 + Cal.lp y := by
  rw [Cal.ml_eq y 2 (by omega) (by omega), if_pos rfl, show Cal.ahead 2 = 59 from by decide, show Cal.ahead 1 = 31 from by decide]; omega
theorem ml_other (y m : Int) (h1 : 1 ≤ m) (h2 : m ≤ 12) (h : m ≠ 2) : Cal.ml y m = Cal.ahead m - Cal.ahead (m - 1) := by
  unfold Cal.ml Cal.st
  rw [show m + 1 - 1 = m by omega]
  by_cases c : 2 < m
  · rw [if_pos c, if_pos (by omega)]; omega
  · rw [if_neg c, if_neg (by omega)]; omega

set_option maxHeartbeats 400000 in
theorem mlen_in (y m : Int) (w : World) (h1 : 1 ≤ y) (h2 : y ≤ 9999) (h3 : 1 ≤ m) (h4 : m ≤ 12) (T : Tab w) :
    Calls Tryd.prog 53 #[.int .i64 y, .int .i64 m] w fun e w' => e = .returned (.int .i64 (Cal.ml y m)) ∧ ∃ n, w' = w.drewN n := by
  have hc : w.cell? ⟨0, m.toNat - 1, none⟩ = some (.int .i64 (Cal.ahead (m - 1))) := by
    rw [show m.toNat - 1 = (m - 1).toNat by omega]; exact T (m - 1) (by omega) (by omega)
  have hc2 : w.cell? ⟨0, m.toNat, none⟩ = some (.int .i64 (Cal.ahead m)) := T m (by omega) (by omega)
  have hb := Cal.ahead_cases (m - 1) (by omega) (by omega)
  have hb' : 0 ≤ Cal.ahead (m - 1) ∧ Cal.ahead (m - 1) ≤ 365 := by omega
  have ha := Cal.ahead_cases m (by omega) (by omega)
  have ha' : 0 ≤ Cal.ahead m ∧ Cal.ahead m ≤ 365 := by omega
  clear hb ha T
  obtain ⟨hb1, hb2⟩ := hb'
  obtain ⟨ha1, ha2⟩ := ha'
  by_cases hm : m = 2
  · have h2m : (m == 2) = true := by simp [hm]
    cases hl : Cal.leapB y
    all_goals
      have L := fun w => leap_in y w h1 h2
      rw [hl] at L
      have HL := Lib.hid hl
      have HM := Lib.hid hm
      clear hl hm
      go_enter Tryd.func53, Tryd.ntmps53
      go_wp2_with (first | (go_at_call 54; refine (L _).mono ?_; rintro e w' ⟨rfl, rfl⟩))
      go_quiet (fail)
      go_wp2_with (first | (go_at_call 54; refine (L _).mono ?_; rintro e w' ⟨rfl, rfl⟩))
      go_ret
      refine ⟨ret_int ?_, _, rfl⟩
      have e := HM.out
      subst e
      rw [ml_two]
      unfold Cal.lp
      rw [HL.out]
      simp [Cal.ahead, Cal.aheadL]
  · have h2m : (m == 2) = false := by simp [hm]
    have hv := Lib.hid (ml_other y m h3 h4 hm)
    go_enter Tryd.func53, Tryd.ntmps53
    go_wp2_with fail
    go_quiet (fail)
    go_wp2_with fail
    go_ret
    refine ⟨ret_int ?_, _, rfl⟩
    rw [hv.out]

theorem mlen_any (y m : Int) (w : World) (T : Tab w) :
    Calls Tryd.prog 53 #[.int .i64 y, .int .i64 m] w fun e w' => e = .returned (.int .i64 (mlenF y m)) ∧ ∃ n, w' = w.drewN n := by
  unfold mlenF
  by_cases h : 1 ≤ y ∧ y ≤ 9999 ∧ 1 ≤ m ∧ m ≤ 12
  · rw [if_pos h]; exact mlen_in y m w h.1 h.2.1 h.2.2.1 h.2.2.2 T
  · rw [if_neg h]; exact mlen_out y m w h
theorem mlenF_bd (y m : Int) : 0 ≤ mlenF y m ∧ mlenF y m ≤ 31 := by
  unfold mlenF
  split
  · rename_i h; have := Cal.ml_range y m h.2.2.1 h.2.2.2; omega
  · omega

/-- calendar.Number: the day's number where the date may be. -/
def numF (y m d : Int) : Int × Bool := if 1 ≤ d ∧ d ≤ mlenF y m then (Cal.num y m d, true) else (0, false)
theorem valid_iff (y m d : Int) : (1 ≤ d ∧ d ≤ mlenF y m) ↔ Cal.Valid y m d := by
  unfold mlenF Cal.Valid
  by_cases h : 1 ≤ y ∧ y ≤ 9999 ∧ 1 ≤ m ∧ m ≤ 12
  · rw [if_pos h]; constructor
    · intro a; exact ⟨h.1, h.2.1, h.2.2.1, h.2.2.2, a.1, a.2⟩
    · intro a; exact ⟨a.2.2.2.2.1, a.2.2.2.2.2⟩
  · rw [if_neg h]; constructor
    · intro a; omega
    · intro a; exact absurd ⟨a.1, a.2.1, a.2.2.1, a.2.2.2.1⟩ h

theorem tab_alloc {w : World} (T : Tab w) (hw : 0 < w.heap.size) (o : Obj) : Tab (w.alloc o) := fun i h0 h1 => by
  rw [World.cell?_alloc_lt w o _ (by simpa using hw)]; exact T i h0 h1
theorem tab_drewN {w : World} (T : Tab w) (n : Nat) : Tab (w.drewN n) := T

set_option maxHeartbeats 400000 in
theorem num_out (y m d : Int) (w : World) (T : Tab w) (hw : 0 < w.heap.size) (h : ¬ (1 ≤ d ∧ d ≤ mlenF y m)) :
    Calls Tryd.prog 36 #[.agg #[.int .i64 y, .int .i64 m, .int .i64 d]] w fun e w' => e = .returned (.tuple #[.int .i64 0, .bool false]) ∧ Below w.heap.size w w' := by
  have hb := mlenF_bd y m
  obtain ⟨hb0, hb1⟩ := hb
  by_cases hd : d < 1
  · have hd' : decide (d < 1) = true := by simpa using hd
    go_enter Tryd.func36, Tryd.ntmps36
    go_wp2_with fail
    go_quiet (fail)
    go_wp2_with fail
    go_ret2
    exact ⟨rfl, below_drewN ((Below.refl _ _).alloc (Nat.le_refl _) _) _⟩
  · have hd' : decide (d < 1) = false := by simpa using hd
    have hm : mlenF y m < d := by omega
    have hT : ∀ o n, Tab ((w.alloc o).drewN n) := fun o n => tab_drewN (tab_alloc T hw o) n
    clear T h
    go_enter Tryd.func36, Tryd.ntmps36
    go_wp2_with fail
    go_quiet ((go_at_call 53; exact quiet_one (mlen_any _ _ _ (hT _ _))))
    go_wp2_with fail
    go_ret2
    exact ⟨rfl, below_drewN ((Below.refl _ _).alloc (Nat.le_refl _) _) _⟩

theorem num_eq (y m d : Int) : Cal.num y m d = 365 * (y - 1) + (y - 1) / 4 - (y - 1) / 100 + (y - 1) / 400 + Cal.ahead (m - 1) + d + (if 2 < m then Cal.lp y else 0) := by
  unfold Cal.num Cal.ys Cal.st; omega

set_option maxHeartbeats 1000000 in
theorem num_in (y m d : Int) (w : World) (T : Tab w) (hw : 0 < w.heap.size) (h : Cal.Valid y m d) :
    Calls Tryd.prog 36 #[.agg #[.int .i64 y, .int .i64 m, .int .i64 d]] w fun e w' => e = .returned (.tuple #[.int .i64 (Cal.num y m d), .bool true]) ∧ Below w.heap.size w w' := by
  have hv := (valid_iff y m d).2 h
  have hr := Cal.num_range h
  obtain ⟨h1, h2, h3, h4, h5, h6⟩ := h
  have h7 := (Cal.ml_range y m h3 h4).2
  have hd' : decide (d < 1) = false := by simp; omega
  have hg : decide (mlenF y m < d) = false := by simp; omega
  have hb := mlenF_bd y m
  have hc : w.cell? ⟨0, m.toNat - 1, none⟩ = some (.int .i64 (Cal.ahead (m - 1))) := by
    rw [show m.toNat - 1 = (m - 1).toNat by omega]; exact T (m - 1) (by omega) (by omega)
  have ha := Cal.ahead_cases (m - 1) (by omega) (by omega)
  have ha1 : 0 ≤ Cal.ahead (m - 1) := by omega
  have ha2 : Cal.ahead (m - 1) ≤ 365 := by omega
  obtain ⟨hb0, hb1⟩ := hb
  have hcc : ∀ o n, ((w.alloc o).drewN n).cell? ⟨0, m.toNat - 1, none⟩ = some (.int .i64 (Cal.ahead (m - 1))) := fun o n => by
    show (w.alloc o).cell? _ = _
    rw [World.cell?_alloc_lt w o _ (by simpa using hw)]; exact hc
  have HE := Lib.hid (num_eq y m d)
  have hT : ∀ o n, Tab ((w.alloc o).drewN n) := fun o n => tab_drewN (tab_alloc T hw o) n
  have hd0 : d ≤ 31 := by omega
  clear T ha hc hv
  by_cases hm : 2 < m
  · have hm' : decide (2 < m) = true := by simpa using hm
    cases hl : Cal.leapB y
    all_goals
      have L := fun w => leap_in y w h1 h2
      rw [hl] at L
      have HL := Lib.hid hl
      clear hl
      go_enter Tryd.func36, Tryd.ntmps36
      go_wp2_with fail
      go_quiet ((go_at_call 53; exact quiet_one (mlen_any _ _ _ (hT _ _))))
      go_wp2_with fail
      go_quiet (fail)
      go_wp2_with (go_at_call 54; refine (L _).mono ?_; rintro e w' ⟨rfl, rfl⟩)
      go_ret2
      refine ⟨?_, below_drewN ((Below.refl _ _).alloc (Nat.le_refl _) _) _⟩
      have E := HE.out
      unfold Cal.lp at E
      rw [HL.out, if_pos hm] at E
      simp at E
      simp [E]
  · have hm' : decide (2 < m) = false := by simpa using hm
    go_enter Tryd.func36, Tryd.ntmps36
    go_wp2_with fail
    go_quiet ((go_at_call 53; exact quiet_one (mlen_any _ _ _ (hT _ _))))
    go_wp2_with fail
    go_quiet (fail)
    go_wp2_with fail
    go_ret2
    refine ⟨?_, below_drewN ((Below.refl _ _).alloc (Nat.le_refl _) _) _⟩
    have E := HE.out
    rw [if_neg (by omega)] at E
    simp [E]

theorem num_any (y m d : Int) (w : World) (T : Tab w) (hw : 0 < w.heap.size) :
    Calls Tryd.prog 36 #[.agg #[.int .i64 y, .int .i64 m, .int .i64 d]] w fun e w' => e = .returned (.tuple #[.int .i64 (numF y m d).1, .bool (numF y m d).2]) ∧ Below w.heap.size w w' := by
  unfold numF
  by_cases h : 1 ≤ d ∧ d ≤ mlenF y m
  · rw [if_pos h]; exact num_in y m d w T hw ((valid_iff y m d).1 h)
  · rw [if_neg h]; exact num_out y m d w T hw h

end Go.Proofs.YtojjemokejmcjaaDoor.RL
