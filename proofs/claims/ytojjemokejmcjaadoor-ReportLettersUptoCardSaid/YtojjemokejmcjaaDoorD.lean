/- The reference's calendar (arrearsref2): lengths, a date's day, a day's date. -/
import Derived.Test.YtojjemokejmcjaaDoorA
namespace Go.Proofs.YtojjemokejmcjaaDoor.RL
open Go.RowKit Arr

set_option maxHeartbeats 400000 in
theorem div_any (y : Int) (w : World) (h1 : 1 ≤ y) :
    Calls Tryd.prog 58 #[.int .i64 y] w fun e w' => e = .returned (.bool (Cal.leapB y)) ∧ w = w' := by
  go_enter Tryd.func58, Tryd.ntmps58
  go_wp2
  all_goals go_ret
  all_goals refine ⟨ret_bool ?_, rfl⟩
  all_goals rw [Bool.eq_iff_iff, Cal.leapB_iff]
  all_goals simp_all

set_option maxHeartbeats 400000 in
theorem ylen_any (y : Int) (w : World) (h1 : 1 ≤ y) :
    Calls Tryd.prog 42 #[.int .i64 y] w fun e w' => e = .returned (.int .i64 (365 + Cal.lp y)) ∧ w = w' := by
  have L := div_any y w h1
  cases hl : Cal.leapB y
  all_goals
    rw [hl] at L
    have HL := Lib.hid hl
    clear hl
    go_enter Tryd.func42, Tryd.ntmps42
    go_wp2_with (go_at_call 58; refine L.mono ?_; rintro e w' ⟨rfl, rfl⟩)
    go_ret
    refine ⟨ret_int ?_, rfl⟩
    unfold Cal.lp; rw [HL.out]; simp

set_option maxHeartbeats 800000 in
theorem mlen2_any (y m : Int) (w : World) (h1 : 1 ≤ y) (h3 : 1 ≤ m) (h4 : m ≤ 12) :
    Calls Tryd.prog 43 #[.int .i64 y, .int .i64 m] w fun e w' => e = .returned (.int .i64 (Cal.ml y m)) ∧ w = w' := by
  have L := div_any y w h1
  by_cases hm : m = 2
  · subst hm
    cases hl : Cal.leapB y
    all_goals
      rw [hl] at L
      have HL := Lib.hid hl
      clear hl
      go_enter Tryd.func43, Tryd.ntmps43
      go_wp2_with (go_at_call 58; refine L.mono ?_; rintro e w' ⟨rfl, rfl⟩)
      go_ret
      refine ⟨ret_int ?_, rfl⟩
      rw [Cal.ml_eq y 2 (by omega) (by omega), if_pos rfl]; unfold Cal.lp; rw [HL.out]; simp
  · have e := Lib.hid (Cal.ml_eq y m h3 h4)
    have h2m : (m == 2) = false := by simp [hm]
    by_cases h30 : m = 4 ∨ m = 6 ∨ m = 9 ∨ m = 11
    · rcases h30 with rfl | rfl | rfl | rfl
      all_goals
        go_enter Tryd.func43, Tryd.ntmps43
        go_wp2_with fail
        go_ret
        refine ⟨ret_int ?_, rfl⟩
        rw [e.out]; simp
    · have a4 : (m == 4) = false := by simp; omega
      have a6 : (m == 6) = false := by simp; omega
      have a9 : (m == 9) = false := by simp; omega
      have a11 : (m == 11) = false := by simp; omega
      go_enter Tryd.func43, Tryd.ntmps43
      go_wp2_with fail
      go_ret
      refine ⟨ret_int ?_, rfl⟩
      rw [e.out, if_neg hm, if_neg h30]

set_option maxHeartbeats 400000 in
theorem mlenR_any (y m : Int) (w : World) :
    Calls Tryd.prog 41 #[.int .i64 y, .int .i64 m] w fun e w' => e = .returned (.int .i64 (mlenF y m)) ∧ ∃ n, w' = w.drewN n := by
  unfold mlenF
  by_cases h : 1 ≤ y ∧ y ≤ 9999 ∧ 1 ≤ m ∧ m ≤ 12
  · rw [if_pos h]
    obtain ⟨h1, h2, h3, h4⟩ := h
    go_enter Tryd.func41, Tryd.ntmps41
    go_wp2_with (go_at_call 43; refine (mlen2_any y m _ h1 h3 h4).mono ?_; rintro e w' ⟨rfl, rfl⟩)
    go_ret
    exact ⟨rfl, 0, rfl⟩
  · rw [if_neg h]
    go_enter Tryd.func41, Tryd.ntmps41
    go_wp2_with fail
    all_goals go_ret
    all_goals exact ⟨rfl, 0, rfl⟩

set_option maxHeartbeats 400000 in
theorem numR_out (y m d : Int) (w : World) (h : ¬ (1 ≤ d ∧ d ≤ mlenF y m)) :
    Calls Tryd.prog 21 #[.agg #[.int .i64 y, .int .i64 m, .int .i64 d]] w fun e w' => e = .returned (.tuple #[.int .i64 0, .bool false]) ∧ Below w.heap.size w w' := by
  by_cases hd : d < 1
  · have hd' : decide (d < 1) = true := by simpa using hd
    go_enter Tryd.func21, Tryd.ntmps21
    go_wp2_with fail
    go_quiet (fail)
    go_wp2_with fail
    go_ret2
    exact ⟨rfl, below_drewN ((Below.refl _ _).alloc (Nat.le_refl _) _) _⟩
  · have hd' : decide (d < 1) = false := by simpa using hd
    have hm : mlenF y m < d := by omega
    clear h
    go_enter Tryd.func21, Tryd.ntmps21
    go_wp2_with fail
    go_quiet ((go_at_call 41; exact quiet_one (mlenR_any _ _ _)))
    go_wp2_with fail
    go_ret2
    exact ⟨rfl, below_drewN ((Below.refl _ _).alloc (Nat.le_refl _) _) _⟩

set_option maxHeartbeats 1000000 in
theorem numR_in (y m d : Int) (w : World) (h : Cal.Valid y m d) :
    Calls Tryd.prog 21 #[.agg #[.int .i64 y, .int .i64 m, .int .i64 d]] w fun e w' => e = .returned (.tuple #[.int .i64 (Cal.num y m d), .bool true]) ∧ Below w.heap.size w w' := by
  have hv := (valid_iff y m d).2 h
  have hr := Cal.num_range h
  obtain ⟨h1, h2, h3, h4, h5, h6⟩ := h
  have h7 := (Cal.ml_range y m h3 h4).2
  have hd' : decide (d < 1) = false := by simp; omega
  have hg : decide (mlenF y m < d) = false := by simp; omega
  have hb := mlenF_bd y m
  obtain ⟨hb0, hb1⟩ := hb
  have hd0 : d ≤ 31 := by omega
  clear hv
  go_enter Tryd.func21, Tryd.ntmps21
  go_wp2_with fail
  go_quiet ((go_at_call 41; exact quiet_one (mlenR_any _ _ _)))
  go_wp2_with fail
  have ea : (y - 1) / 400 * 146097 = Cal.ys (400 * ((y - 1) / 400) + 1) := by unfold Cal.ys; omega
  rw [ea]
  clear ea
  have yb1 := Cal.ys_mono 1 (400 * ((y - 1) / 400) + 1) (by omega)
  go_loop [5, 6] (fun v5 v6 => ∃ z : Int, 400 * ((y - 1) / 400) + 1 ≤ z ∧ z ≤ y ∧ v6 = .int .i64 z ∧ v5 = .int .i64 (Cal.ys z)) (fun _ v6 => (y - intOf v6).toNat)
  case atStart => exact ⟨_, by omega, by omega, rfl, rfl⟩
  case round =>
    obtain ⟨z, hz1, hz2, rfl, rfl⟩ := hrel
    have b1 := Cal.ys_mono 1 z (by omega)
    have b2 := Cal.ys_mono z 10000 (by omega)
    rw [show Cal.ys 1 = 0 from by decide] at b1 yb1
    rw [show Cal.ys 10000 = 3652059 from by decide] at b2
    have lz := Cal.lp_01 z
    have lz0 : 0 ≤ Cal.lp z := by omega
    have lz1 : Cal.lp z ≤ 1 := by omega
    clear lz
    by_cases hlt : z < y
    · have HS := Lib.hid (Cal.ys_succ z)
      go_wp2_with (go_at_call 42; refine (ylen_any z _ (by omega)).mono ?_; rintro e w' ⟨rfl, rfl⟩)
      go_round
      case rel => exact ⟨z + 1, by omega, by omega, rfl, by rw [HS.out]; congr 1; omega⟩
      case measure => simp [intOf]; omega
    · obtain rfl : z = y := by omega
      go_wp2_with fail
      go_loop [5, 7] (fun v5 v7 => ∃ k : Int, 1 ≤ k ∧ k ≤ m ∧ v7 = .int .i64 k ∧ v5 = .int .i64 (Cal.ys z + Cal.st z k)) (fun _ v7 => (m - intOf v7).toNat)
      case atStart => exact ⟨1, by omega, by omega, rfl, by rw [Cal.st_one]; simp⟩
      case round =>
        obtain ⟨k, hk1, hk2, rfl, rfl⟩ := hrel
        have sb := Cal.st_range z k hk1 (by omega)
        obtain ⟨sb1, sb2⟩ := sb
        have mb := Cal.ml_range z k hk1 (by omega)
        obtain ⟨mb1, mb2⟩ := mb
        by_cases hlt : k < m
        · go_wp2_with (go_at_call 43; refine (mlen2_any _ k _ (by omega) (by omega) (by omega)).mono ?_; rintro e w' ⟨rfl, rfl⟩)
          go_round
          case rel => exact ⟨k + 1, by omega, by omega, rfl, by unfold Cal.ml; congr 1; omega⟩
          case measure => simp [intOf]; omega
        · obtain rfl : k = m := by omega
          go_wp2_with fail
          go_ret2
          exact ⟨by unfold Cal.num; rfl, below_drewN ((Below.refl _ _).alloc (Nat.le_refl _) _) _⟩

theorem numR_any (y m d : Int) (w : World) :
    Calls Tryd.prog 21 #[.agg #[.int .i64 y, .int .i64 m, .int .i64 d]] w fun e w' => e = .returned (.tuple #[.int .i64 (numF y m d).1, .bool (numF y m d).2]) ∧ Below w.heap.size w w' := by
  unfold numF
  by_cases h : 1 ≤ d ∧ d ≤ mlenF y m
  · rw [if_pos h]; exact numR_in y m d w ((valid_iff y m d).1 h)
  · rw [if_neg h]; exact numR_out y m d w h

theorem isday_out (n : Int) (w : World) (h : ¬ (1 ≤ n ∧ n ≤ 3652059)) : Calls Tryd.prog 47 #[.int .i64 n] w fun e w' => e = .returned (.bool false) ∧ w = w' := by
  by_cases h' : n < 1
  all_goals
    go_enter Tryd.func47, Tryd.ntmps47
    go_wp2
    go_ret
    refine ⟨ret_bool ?_, rfl⟩
    first | rfl | (simp; omega)

set_option maxHeartbeats 400000 in
theorem civilR_out (n : Int) (w : World) (h : ¬ (1 ≤ n ∧ n ≤ 3652059)) :
    Calls Tryd.prog 28 #[.int .i64 n] w fun e w' => e = .returned (.tuple #[.agg #[.int .i64 0, .int .i64 0, .int .i64 0], .bool false]) ∧ Below w.heap.size w w' := by
  go_enter Tryd.func28, Tryd.ntmps28
  go_wp2_with (go_at_call 47; refine (isday_out n _ h).mono ?_; rintro e w' ⟨rfl, rfl⟩)
  exact bodyPost_ret (v := .tuple #[.agg #[.int .i64 0, .int .i64 0, .int .i64 0], .bool false]) (by simp [results, Tryd.results28, go_sem]) rfl ⟨rfl, (Below.refl _ _).alloc (Nat.le_refl _) _⟩

theorem isday_in (n : Int) (w : World) (h1 : 1 ≤ n) (h2 : n ≤ 3652059) : Calls Tryd.prog 47 #[.int .i64 n] w fun e w' => e = .returned (.bool true) ∧ w = w' := by
  go_enter Tryd.func47, Tryd.ntmps47
  go_wp2
  go_ret
  exact ⟨ret_bool (by simp), rfl⟩

set_option maxHeartbeats 1000000 in
theorem civilR_in (n : Int) (w : World) (h1 : 1 ≤ n) (h2 : n ≤ 3652059) :
    Calls Tryd.prog 28 #[.int .i64 n] w fun e w' => ∃ y m d : Int, e = .returned (.tuple #[.agg #[.int .i64 y, .int .i64 m, .int .i64 d], .bool true]) ∧ Cal.Valid y m d ∧ Cal.num y m d = n ∧ Below w.heap.size w w' := by
  go_enter Tryd.func28, Tryd.ntmps28
  go_wp2_with (go_at_call 47; refine (isday_in n _ h1 h2).mono ?_; rintro e w' ⟨rfl, rfl⟩)
  have ea : n - (n - 1) / 146097 * 146097 = n - Cal.ys (400 * ((n - 1) / 146097) + 1) := by unfold Cal.ys; omega
  rw [ea]
  have ys0 : Cal.ys (400 * ((n - 1) / 146097) + 1) < n := by unfold Cal.ys; omega
  clear ea
  go_loop [5, 6] (fun v5 v6 => ∃ z : Int, 1 ≤ z ∧ z ≤ 9999 ∧ Cal.ys z < n ∧ v6 = .int .i64 z ∧ v5 = .int .i64 (n - Cal.ys z)) (fun _ v6 => (9999 - intOf v6).toNat)
  case atStart => exact ⟨_, by omega, by omega, ys0, rfl, rfl⟩
  case round =>
    obtain ⟨z, hz1, hz2, hz3, rfl, rfl⟩ := hrel
    clear ys0
    have b1 := Cal.ys_mono 1 z (by omega)
    rw [show Cal.ys 1 = 0 from by decide] at b1
    have lz := Cal.lp_01 z
    have lz0 : 0 ≤ Cal.lp z := by omega
    have lz1 : Cal.lp z ≤ 1 := by omega
    clear lz
    have HS := Lib.hid (Cal.ys_succ z)
    by_cases hlt : Cal.ys (z + 1) < n
    · have hlt' : 365 + Cal.lp z < n - Cal.ys z := by rw [HS.out] at hlt; omega
      have hz9 : z < 9999 := by
        rcases (show z < 9999 ∨ z = 9999 by omega) with h | h
        · exact h
        · subst h; have : Cal.ys (9999 + 1) = 3652059 := by decide
          omega
      go_wp2_with (go_at_call 42; refine (ylen_any z _ (by omega)).mono ?_; rintro e w' ⟨rfl, rfl⟩)
      go_round
      case rel => exact ⟨z + 1, by omega, by omega, hlt, rfl, by rw [HS.out]; congr 1; omega⟩
      case measure => simp [intOf]; omega
    · have hge : n - Cal.ys z ≤ 365 + Cal.lp z := by rw [HS.out] at hlt; omega
      have H13 := Lib.hid (Cal.st_thirteen z)
      have H1 := Lib.hid (Cal.st_one z)
      clear hlt
      go_wp2_with (go_at_call 42; refine (ylen_any z _ (by omega)).mono ?_; rintro e w' ⟨rfl, rfl⟩)
      go_loop [5, 7] (fun v5 v7 => ∃ k : Int, 1 ≤ k ∧ k ≤ 12 ∧ Cal.st z k < n - Cal.ys z ∧ v7 = .int .i64 k ∧ v5 = .int .i64 (n - Cal.ys z - Cal.st z k)) (fun _ v7 => (12 - intOf v7).toNat)
      case atStart => exact ⟨1, by omega, by omega, by rw [H1.out]; omega, rfl, by rw [H1.out]; congr 1; omega⟩
      case round =>
        obtain ⟨k, hk1, hk2, hk3, rfl, rfl⟩ := hrel
        have sb := Cal.st_range z k hk1 (by omega)
        obtain ⟨sb1, sb2⟩ := sb
        have mb := Cal.ml_range z k hk1 (by omega)
        obtain ⟨mb1, mb2⟩ := mb
        by_cases hlt : Cal.ml z k < n - Cal.ys z - Cal.st z k
        · have hk12 : k < 12 := by
            rcases (show k < 12 ∨ k = 12 by omega) with h | h
            · exact h
            · subst h; unfold Cal.ml at hlt; rw [show (12 : Int) + 1 = 13 from rfl, H13.out] at hlt; omega
          go_wp2_with (go_at_call 43; refine (mlen2_any _ k _ (by omega) (by omega) (by omega)).mono ?_; rintro e w' ⟨rfl, rfl⟩)
          go_round
          case rel => exact ⟨k + 1, by omega, by omega, by unfold Cal.ml at hlt; omega, rfl, by unfold Cal.ml; congr 1; omega⟩
          case measure => simp [intOf]; omega
        · have hle : n - Cal.ys z - Cal.st z k ≤ Cal.ml z k := by omega
          clear hlt
          go_wp2_with (go_at_call 43; refine (mlen2_any _ k _ (by omega) (by omega) (by omega)).mono ?_; rintro e w' ⟨rfl, rfl⟩)
          refine bodyPost_ret (v := .tuple #[.agg #[.int .i64 z, .int .i64 k, .int .i64 (n - Cal.ys z - Cal.st z k)], .bool true]) (by simp [results, Tryd.results28, go_sem]) rfl ⟨z, k, _, rfl, ⟨hz1, hz2, hk1, hk2, by omega, hle⟩, by unfold Cal.num; omega, ?_⟩
          exact (Below.refl _ _).alloc (Nat.le_refl _) _
end Go.Proofs.YtojjemokejmcjaaDoor.RL
