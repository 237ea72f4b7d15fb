/- Package calendar: a day's date, and its text. -/
import Derived.Test.YtojjemokejmcjaaDoorA
import Derived.Deep.DeepCutAuto
namespace Go.Proofs.YtojjemokejmcjaaDoor.RL
open Go.RowKit Arr

theorem tab_below {w w' : World} (T : Tab w) (hw : 0 < w.heap.size) (hb : Below w.heap.size w w') : Tab w' := fun i h0 h1 => by
  rw [hb.cell (p := ⟨0, i.toNat, none⟩) hw]; exact T i h0 h1

set_option maxHeartbeats 400000 in
theorem civil_out (n : Int) (w : World) (h : ¬ (1 ≤ n ∧ n ≤ 3652059)) :
    Calls Tryd.prog 23 #[.int .i64 n] w fun e w' => e = .returned (.tuple #[.agg #[.int .i64 0, .int .i64 0, .int .i64 0], .bool false]) ∧ Below w.heap.size w w' := by
  by_cases h' : n < 1
  all_goals
    go_enter Tryd.func23, Tryd.ntmps23
    go_wp2_with fail
    exact bodyPost_ret (v := .tuple #[.agg #[.int .i64 0, .int .i64 0, .int .i64 0], .bool false]) (by simp [results, Tryd.results23, go_sem]) rfl ⟨rfl, (Below.refl _ _).alloc (Nat.le_refl _) _⟩

set_option maxHeartbeats 1000000 in
theorem civil_in (n : Int) (w : World) (T : Tab w) (hw : 0 < w.heap.size) (h1 : 1 ≤ n) (h2 : n ≤ 3652059) :
    Calls Tryd.prog 23 #[.int .i64 n] w fun e w' => ∃ y m d : Int, e = .returned (.tuple #[.agg #[.int .i64 y, .int .i64 m, .int .i64 d], .bool true]) ∧ Cal.Valid y m d ∧ Cal.num y m d = n ∧ Below w.heap.size w w' := by
  go_enter Tryd.func23, Tryd.ntmps23
  go_upto_region 6 with fail
  go_cut [6] (fun s6 wx => ∃ h : Int, s6 = .int .i64 h ∧ Hid (h = min ((n - 1) % 146097 / 36524) 3) ∧ wx = w.alloc (.cells #[.int .i64 0, .int .i64 0, .int .i64 0] 47))
  case first =>
    go_wp2_with fail
    all_goals (go_meet; exact ⟨_, rfl, by unfold Hid; omega, rfl⟩)
  case rest =>
    obtain ⟨h, rfl, hh, rfl⟩ := hcut
    have hh0 : 0 ≤ h := by have := hh.out; omega
    have hh3 : h ≤ 3 := by have := hh.out; omega
    have hr2 : 0 ≤ (n - 1) % 146097 - h * 36524 := by have := hh.out; omega
    have hr3 : (n - 1) % 146097 - h * 36524 ≤ 36524 := by have := hh.out; omega
    go_upto_region 10 with fail
    go_cut [8] (fun s8 wx => ∃ o : Int, s8 = .int .i64 o ∧ Hid (o = min (((n - 1) % 146097 - h * 36524) % 1461 / 365) 3) ∧ wx = w.alloc (.cells #[.int .i64 0, .int .i64 0, .int .i64 0] 47))
    case first =>
      go_wp2_with fail
      all_goals (go_meet; exact ⟨_, rfl, by unfold Hid; omega, rfl⟩)
    case rest =>
      obtain ⟨o, rfl, ho, rfl⟩ := hcut
      have ho0 : 0 ≤ o := by have := ho.out; omega
      have ho3 : o ≤ 3 := by have := ho.out; omega
      have key := Cal.year_of n h1 h2 _ _ h _ _ _ o _ rfl rfl hh.out rfl rfl rfl ho.out rfl
      obtain ⟨k1, k2, k3, k4, k5⟩ := key
      have hr4 : 0 ≤ ((n - 1) % 146097 - h * 36524) % 1461 - o * 365 := k4
      have HK3 := Lib.hid k3
      clear k3 k4
      go_upto_region 13 with fail
      generalize ((n - 1) % 146097 - h * 36524) % 1461 - o * 365 = r at *
      generalize 400 * ((n - 1) / 146097) + 1 + (100 * h + 4 * (((n - 1) % 146097 - h * 36524) / 1461) + o) = y at *
      have T' : Tab (w.alloc (.cells #[.int .i64 0, .int .i64 0, .int .i64 0] 47)) := tab_alloc T hw _
      clear T hh ho hr2 hr3 hh0 hh3 ho0 ho3
      go_wp2_with fail
      go_loop [9] (fun v => ∃ m : Int, 1 ≤ m ∧ m ≤ 12 ∧ v = .int .i64 m ∧ Cal.st y m ≤ r) (fun v => (12 - intOf v).toNat)
      case atStart => exact ⟨1, by omega, by omega, rfl, by rw [Cal.st_one]; exact hr4⟩
      case round =>
        obtain ⟨m, hm1, hm2, rfl, hs⟩ := hrel
        have sb := Cal.st_range y (m + 1) (by omega) (by omega)
        obtain ⟨sb1, sb2⟩ := sb
        have sa := Cal.st_range y m (by omega) (by omega)
        obtain ⟨sa1, sa2⟩ := sa
        by_cases hc : m < 12 ∧ Cal.st y (m + 1) ≤ r
        · obtain ⟨hlt, hd⟩ := hc
          go_wp2_with (go_at_call 44; refine (start_any _ _ _ k1 k2 (by omega) (by omega) T').mono ?_; rintro e w' ⟨rfl, rfl⟩)
          go_round
          case rel => exact ⟨m + 1, by omega, by omega, rfl, hd⟩
          case measure => simp [intOf]; omega
        · have hv : r < Cal.st y (m + 1) := by
            by_cases e : m = 12
            · subst e; rw [show (12 : Int) + 1 = 13 from rfl, Cal.st_thirteen]; exact k5
            · omega
          clear hc
          have hr5 : r ≤ 366 := by omega
          by_cases hlt : m < 12
          all_goals
            go_wp2_with (go_at_call 44; refine (start_any _ _ _ k1 k2 (by omega) (by omega) T').mono ?_; rintro e w' ⟨rfl, rfl⟩)
            refine bodyPost_ret (v := .tuple #[.agg #[.int .i64 y, .int .i64 m, .int .i64 (r - Cal.st y m + 1)], .bool true]) (by simp [results, Tryd.results23, go_sem]) rfl ⟨y, m, _, rfl, ⟨k1, k2, hm1, hm2, by omega, by unfold Cal.ml; omega⟩, ?_, ?_⟩
            · have := HK3.out; unfold Cal.num; omega
            · exact (Below.refl _ _).alloc (Nat.le_refl _) _
end Go.Proofs.YtojjemokejmcjaaDoor.RL
