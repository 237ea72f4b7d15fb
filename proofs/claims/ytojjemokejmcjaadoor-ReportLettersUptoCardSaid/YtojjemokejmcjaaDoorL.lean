/- Sentences of letters: package report's and the reference's; a letter's two words read back. -/
import Derived.Test.YtojjemokejmcjaaDoorG
import Derived.Test.YtojjemokejmcjaaDoorK
namespace Go.Proofs.YtojjemokejmcjaaDoor.RL
open Go.RowKit Go.Sort Arr

def SePost (k : Int) (w : World) (e : Ending) (w' : World) : Prop :=
  e = .returned (.agg #[.string (S (Let.fst k)), .string (S (Let.mid k)), .string (S (Let.lst k)), .bool (Let.af k)]) ∧ Below w.heap.size w w'

set_option maxRecDepth 100000 in
set_option maxHeartbeats 4000000 in
theorem sent_any (k : Int) (h1 : 1 ≤ k) (h2 : k ≤ 9) (w : World) : Calls Tryd.prog 9 #[.int .i64 k] w (SePost k w) := by
  rcases Let.kinds k h1 h2 with rfl | rfl | rfl | rfl | rfl | rfl | rfl | rfl | rfl
  all_goals
    go_enter Tryd.func9, Tryd.ntmps9
    go_wp2
    go_returns
    exact ⟨rfl, (Below.refl _ _).alloc (Nat.le_refl _) _⟩
end Go.Proofs.YtojjemokejmcjaaDoor.RL
