/- report.Letter. -/
import Derived.Test.YtojjemokejmcjaaDoorN
namespace Go.Proofs.YtojjemokejmcjaaDoor.RL
open Go.RowKit Go.Sort Arr

theorem itoa_s (n : Int) (h0 : 1 ≤ n) (h1 : n ≤ 9223372036854775807) (w : World) (E : Env w) :
    Calls Tryd.prog 10 #[.int .i64 n] w fun e w' => ∃ s, e = .returned (.string s) ∧ Hid (s = S (Lib.decDigits n.toNat)) ∧ s.size ≤ 20 ∧ Below w.heap.size w w' := by
  refine (itoa_any n (by omega) h1 w E).mono fun e w' ⟨he, hb⟩ => ⟨_, he, ?_, ?_, hb⟩
  · show _ = _
    unfold Lib.itoa; rw [if_neg (by omega)]
  · rw [S_size]; unfold Lib.itoa; rw [if_neg (by omega)]; exact dec_len _ (by omega)
theorem amt_len (x : Nat) (h : x < 9223372036854775808) : (Let.amt x).length ≤ 23 := by
  unfold Let.amt Let.cents
  have := dec_len (x / 100) (by omega)
  simp only [List.length_append, List.length_cons, List.length_nil, Let.pad_length]; omega
theorem fmt_s (x : Int) (h0 : 0 ≤ x) (h1 : x ≤ 9223372036854775807) (w : World) (E : Env w) :
    Calls Tryd.prog 11 #[.int .i64 x] w fun e w' => ∃ s, e = .returned (.string s) ∧ Hid (s = S (Let.amt x.toNat)) ∧ s.size ≤ 23 ∧ Below w.heap.size w w' := by
  refine (fmt_any x (by omega) h1 w E).mono fun e w' ⟨he, hb⟩ => ⟨_, he, ?_, ?_, hb⟩
  · show _ = _
    unfold fmtS; rw [if_neg (by omega), show x.natAbs = x.toNat by omega]; rfl
  · rw [S_size]; unfold fmtS; rw [if_neg (by omega), show x.natAbs = x.toNat by omega]; exact amt_len _ (by omega)

def Okay (id loan kind day amt : Int) : Prop := 1 ≤ id ∧ 1 ≤ loan ∧ 1 ≤ kind ∧ kind ≤ 9 ∧ 1 ≤ day ∧ day ≤ 3652059 ∧ 0 ≤ amt
/-- What a notice's letter is. -/
def LetIs (id loan kind day amt : Int) (s : ByteArray) (b : Bool) : Prop :=
  (∃ y m d : Int, Cal.Valid y m d ∧ Cal.num y m d = day ∧ Okay id loan kind day amt ∧ s = S (Let.letter id.toNat y.toNat m.toNat d.toNat kind loan.toNat amt.toNat) ∧ b = true) ∨ (¬ Okay id loan kind day amt ∧ s = S [] ∧ b = false)
def LePost (id loan kind day amt : Int) (w : World) (e : Ending) (w' : World) : Prop :=
  ∃ (s : ByteArray) (b : Bool), e = .returned (.tuple #[.string s, .bool b]) ∧ LetIs id loan kind day amt s b ∧ Below w.heap.size w w'

theorem fdate_s (n : Int) (w : World) (E : Env w) (h1 : 1 ≤ n) (h2 : n ≤ 3652059) :
    Calls Tryd.prog 8 #[.int .i64 n] w fun e w' => ∃ (y m d : Int) (s : ByteArray), e = .returned (.tuple #[.string s, .bool true]) ∧ Hid (s = dateS y m d ∧ Cal.Valid y m d ∧ Cal.num y m d = n) ∧ s.size ≤ 10 ∧ Below w.heap.size w w' := by
  refine (fdate_in n w E.tab (by have := E.lt; omega) h1 h2).mono fun e w' ⟨y, m, d, he, hv, hn, hb⟩ => ⟨y, m, d, _, he, ⟨rfl, hv, hn⟩, ?_, hb⟩
  unfold dateS; rw [date_list]; exact Nat.le_refl _

set_option maxRecDepth 100000 in
set_option maxHeartbeats 4000000 in
theorem letter_bad (id loan kind day amt : Int) (ak : Bool) (w : World) (E : Env w) (h : ¬ Okay id loan kind day amt) :
    Calls Tryd.prog 4 #[.agg #[.int .i64 id, .int .i64 loan, .int .i64 kind, .int .i64 day, .int .i64 amt, .bool ak]] w (LePost id loan kind day amt w) := by
  have hE : ∀ o, Env (w.alloc o) := fun o => E.below ((Below.refl _ _).alloc (Nat.le_refl _) _)
  by_cases hd : 1 ≤ day ∧ day ≤ 3652059
  · have hbad : id < 1 ∨ loan < 1 ∨ amt < 0 ∨ kind < 1 ∨ 9 < kind := by
      unfold Okay at h; omega
    obtain ⟨hd1, hd2⟩ := hd
    have HB := Lib.hid h
    clear h
    go_enter Tryd.func4, Tryd.ntmps4
    go_wp2_with (go_at_call 8; refine (fdate_s day _ (hE _) hd1 hd2).mono ?_; rintro e w1 ⟨y, m, d, s, rfl, hs, hsz, hb⟩; obtain ⟨hc, hf⟩ := bcell hb)
    all_goals go_ret2
    all_goals exact ⟨_, _, rfl, .inr ⟨HB.out, rfl, rfl⟩, ((Below.refl _ _).alloc (Nat.le_refl _) _).trans (hb.mono (by simp))⟩
  · have HB := Lib.hid h
    clear h
    go_enter Tryd.func4, Tryd.ntmps4
    go_wp2_with (go_at_call 8; refine (fdate_out day _ hd).mono ?_; rintro e w1 ⟨rfl, hb⟩)
    go_ret2
    exact ⟨_, _, rfl, .inr ⟨HB.out, rfl, rfl⟩, ((Below.refl _ _).alloc (Nat.le_refl _) _).trans (hb.mono (by simp))⟩
end Go.Proofs.YtojjemokejmcjaaDoor.RL
