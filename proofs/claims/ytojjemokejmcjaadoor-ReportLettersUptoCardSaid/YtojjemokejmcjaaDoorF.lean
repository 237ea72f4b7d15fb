/- Amounts as texts: money.Format and the reference's Format. -/
import Derived.Test.YtojjemokejmcjaaDoorE
import Derived.Test.YtojjemokejmcjaaDoorLet
import Derived.Maps.AppendAt
namespace Go.Proofs.YtojjemokejmcjaaDoor.RL
open Go.RowKit Go.Sort Arr

set_option maxHeartbeats 400000 in
theorem fuw_any (x : Int) (h0 : 0 ≤ x) (h1 : x ≤ 9223372036854775808) (w : World) (E : Env w) :
    Calls Tryd.prog 31 #[.int .u64 x, .int .i64 10] w fun e w' => e = .returned (.string (S (Lib.decDigits x.toNat))) ∧ Below w.heap.size w w' := by
  obtain ⟨u, rfl⟩ := Int.eq_ofNat_of_zero_le h0
  have hu : u < 18446744073709551616 := by omega
  have C := fu_any u hu w E
  go_enter Tryd.func31, Tryd.ntmps31
  go_wp2_with (go_at_call 48; refine C.mono ?_; rintro e w' ⟨rfl, hb⟩)
  go_ret
  exact ⟨rfl, hb⟩

set_option maxHeartbeats 400000 in
theorem size_any (x : Int) (h0 : -9223372036854775808 ≤ x) (h1 : x ≤ 9223372036854775807) (w : World) :
    Calls Tryd.prog 30 #[.int .i64 x] w fun e w' => e = .returned (.int .u64 (x.natAbs : Int)) ∧ w = w' := by
  go_enter Tryd.func30, Tryd.ntmps30
  go_wp2
  all_goals go_ret
  all_goals refine ⟨ret_int ?_, rfl⟩
  all_goals (first | omega | (simp only [IntKind.wrap_u64]; omega) | (simp only [wrap64, IntKind.wrap_u64]; omega))

set_option maxHeartbeats 400000 in
theorem magn_any (x : Int) (h0 : -9223372036854775808 ≤ x) (h1 : x ≤ 9223372036854775807) (w : World) :
    Calls Tryd.prog 26 #[.int .i64 x] w fun e w' => e = .returned (.int .u64 (x.natAbs : Int)) ∧ w = w' := by
  go_enter Tryd.func26, Tryd.ntmps26
  go_wp2
  all_goals go_ret
  all_goals refine ⟨ret_int ?_, rfl⟩
  all_goals (first | omega | (simp only [IntKind.wrap_u64]; omega) | (simp only [wrap64, IntKind.wrap_u64]; omega))

theorem S_size (l : List UInt8) : (S l).size = l.length := by unfold S; simp [ByteArray.size]
theorem dec_len (u : Nat) (h : u < 18446744073709551616) : (Lib.decDigits u).length ≤ 20 := by
  rw [Lib.decDigits_length]
  by_cases h0 : u = 0
  · subst h0; rw [Lib.nDigits_small (by omega)]; omega
  · have := Lib.numDigits_eq u (by omega) h; split at this <;> omega

/-- What money.Format tells. -/
def fmtS (x : Int) : List UInt8 := (if x < 0 then [45] else []) ++ Let.amt x.natAbs

theorem amt_eq (u : Nat) : Let.amt u = Lib.decDigits (u / 100) ++ ([46] ++ (Lib.decDigits (u % 100 / 10) ++ Lib.decDigits (u % 100 % 10))) := by
  unfold Let.amt Let.cents
  rw [Let.decDigits_small (u % 100 / 10) (by omega), Let.decDigits_small (u % 100 % 10) (by omega)]
  simp only [Let.pad, List.nil_append]
  rw [show u % 100 / 10 % 10 = u % 100 / 10 by omega]

theorem S_app (a b : List UInt8) : S a ++ S b = S (a ++ b) := by
  unfold S; apply ByteArray.ext; simp

theorem fuw_s (u : Nat) (x : Int) (hx : x = u) (h1 : u ≤ 9223372036854775808) (w : World) (E : Env w) :
    Calls Tryd.prog 31 #[.int .u64 x, .int .i64 10] w fun e w' => ∃ s, e = .returned (.string s) ∧ Hid (s = S (Lib.decDigits u)) ∧ s.size ≤ 20 ∧ Below w.heap.size w w' := by
  subst hx
  refine (fuw_any (u : Int) (by omega) (by omega) w E).mono fun e w' ⟨he, hb⟩ => ⟨_, he, rfl, ?_, hb⟩
  rw [S_size]; exact dec_len _ (by omega)

theorem S_eq {a b : List UInt8} (h : a = b) : S a = S b := by rw [h]
theorem fmt_join (x : Int) (u : Nat) (hu : x.natAbs = u) : S (fmtS x) = (if x < 0 then S [45] else S []) ++ (((S (Lib.decDigits (u / 100)) ++ S [46]) ++ S (Lib.decDigits (u % 100 / 10))) ++ S (Lib.decDigits (u % 100 % 10))) := by
  unfold fmtS
  rw [hu, amt_eq]
  by_cases h : x < 0
  · simp only [if_pos h, S_app]; exact S_eq (by simp)
  · simp only [if_neg h, S_app]; exact S_eq (by simp)

set_option maxHeartbeats 1000000 in
theorem fmtR_any (x : Int) (h0 : -9223372036854775808 ≤ x) (h1 : x ≤ 9223372036854775807) (w : World) (E : Env w) :
    Calls Tryd.prog 14 #[.int .i64 x] w fun e w' => e = .returned (.string (S (fmtS x))) ∧ Below w.heap.size w w' := by
  have hn : (x.natAbs : Int) ≤ 9223372036854775808 := by omega
  generalize hu : x.natAbs = u at hn
  have HU := Lib.hid hu
  have M := size_any x h0 h1 w
  rw [hu] at M
  clear hu
  go_enter Tryd.func14, Tryd.ntmps14
  go_wp2_with (go_at_call 30; refine M.mono ?_; rintro e w' ⟨rfl, rfl⟩)
  refine (fuw_s (u / 100) _ (by omega) (by omega) _ E).mono ?_
  rintro e w1 ⟨s1, rfl, e1, l1, hb1⟩
  go_wp2_with fail
  refine (fuw_s (u % 100 / 10) _ (by omega) (by omega) _ (E.below hb1)).mono ?_
  rintro e w2 ⟨s2, rfl, e2, l2, hb2⟩
  go_wp2_with fail
  refine (fuw_s (u % 100 % 10) _ (by omega) (by omega) _ ((E.below hb1).below hb2)).mono ?_
  rintro e w3 ⟨s3, rfl, e3, l3, hb3⟩
  go_wp2_with fail
  all_goals go_ret
  all_goals refine ⟨ret_str ?_, (hb1.trans (hb2.mono hb1.size)).trans (hb3.mono (Nat.le_trans hb1.size hb2.size))⟩
  all_goals rw [fmt_join x u HU.out, e1.out, e2.out, e3.out]
  · rw [if_pos (by assumption)]; rfl
  · rw [if_neg (by omega)]; apply ByteArray.ext; simp [S]

end Go.Proofs.YtojjemokejmcjaaDoor.RL
