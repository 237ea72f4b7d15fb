/- The reference's sentence and both Letters. -/
import Derived.Test.YtojjemokejmcjaaDoorH
import Derived.Test.YtojjemokejmcjaaDoorL
namespace Go.Proofs.YtojjemokejmcjaaDoor.RL
open Go.RowKit Go.Sort Arr

/-- A sentence out of its two texts. -/
def sentT (k : Int) (a b : List UInt8) : List UInt8 := Let.fst k ++ (if Let.af k = true then b ++ (Let.mid k ++ (a ++ Let.lst k)) else a ++ (Let.mid k ++ (b ++ Let.lst k)))
theorem sentT_eq (k : Int) (loan x : Nat) : sentT k (Lib.decDigits loan) (Let.amt x) = Let.sent k loan x := rfl

theorem parts_len (k : Int) (h1 : 1 ≤ k) (h2 : k ≤ 9) : (Let.fst k).length ≤ 30 ∧ (Let.mid k).length ≤ 40 ∧ (Let.lst k).length ≤ 20 := by
  rcases Let.kinds k h1 h2 with rfl | rfl | rfl | rfl | rfl | rfl | rfl | rfl | rfl <;> decide +kernel
theorem sentT_len (k : Int) (h1 : 1 ≤ k) (h2 : k ≤ 9) (a b : List UInt8) : (sentT k a b).length ≤ 90 + a.length + b.length := by
  obtain ⟨p1, p2, p3⟩ := parts_len k h1 h2
  unfold sentT
  split <;> simp only [List.length_append] <;> omega

set_option maxRecDepth 100000 in
set_option maxHeartbeats 4000000 in
theorem sentR_any (k : Int) (h1 : 1 ≤ k) (h2 : k ≤ 9) (a b : List UInt8) (ha : (S a).size ≤ 100) (hb : (S b).size ≤ 100) (w : World) :
    Calls Tryd.prog 13 #[.int .i64 k, .string (S a), .string (S b)] w fun e w' => ∃ s, e = .returned (.string s) ∧ Hid (s = S (sentT k a b)) ∧ w = w' := by
  rcases Let.kinds k h1 h2 with rfl | rfl | rfl | rfl | rfl | rfl | rfl | rfl | rfl
  all_goals
    go_enter Tryd.func13, Tryd.ntmps13
    go_wp2
    go_ret
    refine ⟨_, rfl, ?_, rfl⟩
    unfold sentT
    simp only [Hid, ← S_app]
    apply ByteArray.ext
    simp [S, Let.fst, Let.mid, Let.lst, Let.af]
end Go.Proofs.YtojjemokejmcjaaDoor.RL
