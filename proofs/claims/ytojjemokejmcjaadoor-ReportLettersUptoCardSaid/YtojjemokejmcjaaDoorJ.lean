/- calendar.ParseDate. -/
import Derived.Test.YtojjemokejmcjaaDoorI
import Derived.Lib.IndexBytes
import Derived.Laws.DeepStrings4
namespace Go.Proofs.YtojjemokejmcjaaDoor.RL
open Go.RowKit Go.Sort Arr

def PdPost (l : List UInt8) (w : World) (e : Ending) (w' : World) : Prop :=
  ∃ (n : Int) (b : Bool), e = .returned (.tuple #[.int .i64 n, .bool b]) ∧ (∀ y m d : Nat, Cal.Valid y m d → l = Let.date y m d → n = Cal.num y m d ∧ b = true) ∧ 0 ≤ n ∧ n ≤ 3652059 ∧ Below w.heap.size w w'

theorem numF_bd (y m d : Int) : 0 ≤ (numF y m d).1 ∧ (numF y m d).1 ≤ 3652059 := by
  unfold numF
  split
  · rename_i h; have := Cal.num_range ((valid_iff y m d).1 h); simp only; omega
  · simp

theorem getD_byte (s : ByteArray) (k : Nat) (h : k < s.size) : s.data.toList.getD k 0 = s[k] := by
  have h' : k < s.data.toList.length := by rw [Array.length_toList]; exact h
  simp only [List.getD, List.getElem?_eq_getElem h', Option.getD_some]
  rfl

set_option maxRecDepth 100000 in
set_option maxHeartbeats 4000000 in
theorem pdate_any (s : ByteArray) (l : List UInt8) (hsl : s.data.toList = l) (w : World) (E : Env w) :
    Calls Tryd.prog 18 #[.string s] w (PdPost l w) := by
  have hsz : s.size = l.length := by rw [← hsl, Array.length_toList]; rfl
  by_cases h10 : s.size = 10
  · have hl10 : l.length = 10 := by omega
    have q0 : (s.extract 0 4).data.toList = l.take 4 := by rw [Lib.extract_data, hsl]; simp
    have q1 : (s.extract 5 7).data.toList = (l.drop 5).take 2 := by rw [Lib.extract_data, hsl]
    have q2 : (s.extract 8 s.size).data.toList = l.drop 8 := by rw [Lib.extract_data, hsl, List.take_of_length_le (by simp; omega)]
    have D0 := fun W => digits_any (s.extract 0 4) _ q0 (by rw [List.length_take]; omega) W
    have D1 := fun W => digits_any (s.extract 5 7) _ q1 (by rw [List.length_take]; omega) W
    have D2 := fun W => digits_any (s.extract 8 s.size) _ q2 (by rw [List.length_drop]; omega) W
    have hsz' : s.size = 10 := h10
    have hneq : ((s.size : Int) != 10) = false := by rw [bne_eq_false_iff_eq]; omega
    have hge : 10 ≤ s.size := by omega
    have hle : s.size ≤ 10 := by omega
    have HL := Lib.hid hsl
    have H10 := Lib.hid hsz'
    clear q0 q1 q2 hsl hsz hsz' h10
    have hT : Tab w := E.tab
    have hw0 : 0 < w.heap.size := by have := E.lt; omega
    have hdash : ∀ y m d : Nat, l = Let.date y m d → l.getD 4 0 = 45 ∧ l.getD 7 0 = 45 := fun y m d e => by rw [e, date_list]; exact ⟨rfl, rfl⟩
    have HD := Lib.hid hdash
    have g4 : ∀ h : 4 < s.size, l.getD 4 0 = s[4] := fun h => by rw [← HL.out]; exact getD_byte s 4 h
    have g7 : ∀ h : 7 < s.size, l.getD 7 0 = s[7] := fun h => by rw [← HL.out]; exact getD_byte s 7 h
    have G4 := Lib.hid g4
    have G7 := Lib.hid g7
    clear hdash g4 g7
    go_enter Tryd.func18, Tryd.ntmps18
    go_wp2_with fail
    · have hx : ((s[7].toNat : Int) != 45) = true := by assumption
      have hno : ∀ y m d : Nat, l ≠ Let.date y m d := fun y m d e => by
        have e1 := (HD.out y m d e).2
        rw [G7.out (by omega)] at e1
        rw [e1] at hx; simp at hx
      have HN := Lib.hid hno
      clear hno
      go_ret2
      exact ⟨_, _, rfl, fun y m d _ e => absurd e (HN.out y m d), by omega, by omega, Below.refl _ _⟩
    · refine (D0 _).mono ?_
      rintro e w1 ⟨n0, b0, rfl, h0, hb1⟩
      have H0 := Lib.hid h0
      clear h0
      go_wp2_with fail
      refine (D1 _).mono ?_
      rintro e w2 ⟨n1, b1, rfl, h1, hb2⟩
      have H1 := Lib.hid h1
      clear h1
      go_wp2_with fail
      refine (D2 _).mono ?_
      rintro e w3 ⟨n2, b2, rfl, h2, hb3⟩
      have H2 := Lib.hid h2
      clear h2
      have hb13 : Below w.heap.size w w3 := (hb1.trans (hb2.mono hb1.size)).trans (hb3.mono (Nat.le_trans hb1.size hb2.size))
      have hT3 : Tab w3 := tab_below hT hw0 hb13
      have hw3 : 0 < w3.heap.size := Nat.lt_of_lt_of_le hw0 hb13.size
      have hall : ∀ y m d : Nat, Cal.Valid y m d → l = Let.date y m d → (n0 = y ∧ b0 = true) ∧ (n1 = m ∧ b1 = true) ∧ (n2 = d ∧ b2 = true) := fun y m d hv e => by
        have i0 := H0.out
        have i1 := H1.out
        have i2 := H2.out
        have f0 : l.take 4 = Let.pad 4 y := by rw [e]; rfl
        have f1 : (l.drop 5).take 2 = Let.pad 2 m := by rw [e]; rfl
        have f2 : l.drop 8 = Let.pad 2 d := by rw [e]; rfl
        rw [f0] at i0; rw [f1] at i1; rw [f2] at i2
        obtain ⟨a1, a2, a3, a4, a5, a6⟩ := hv
        have a7 := Cal.ml_range y m a3 a4
        have j0 := i0 (Let.pad_D 4 y)
        have j1 := i1 (Let.pad_D 2 m)
        have j2 := i2 (Let.pad_D 2 d)
        rw [Let.val_pad 4 y (by omega)] at j0
        rw [Let.val_pad 2 m (by omega)] at j1
        rw [Let.val_pad 2 d (by omega)] at j2
        exact ⟨j0, j1, j2⟩
      have HALL := Lib.hid hall
      clear hall
      have C := num_any n0 n1 n2 w3 hT3 hw3
      cases b0
      · go_wp2_with fail
        go_ret2
        exact ⟨_, _, rfl, fun y m d hv e => absurd (HALL.out y m d hv e).1.2 (by decide), by omega, by omega, hb13⟩
      · cases b1
        · go_wp2_with fail
          go_ret2
          exact ⟨_, _, rfl, fun y m d hv e => absurd (HALL.out y m d hv e).2.1.2 (by decide), by omega, by omega, hb13⟩
        · cases b2
          · go_wp2_with fail
            go_ret2
            exact ⟨_, _, rfl, fun y m d hv e => absurd (HALL.out y m d hv e).2.2.2 (by decide), by omega, by omega, hb13⟩
          · go_wp2_with (go_at_call 36; refine C.mono ?_; rintro e w4 ⟨rfl, hb4⟩)
            go_ret2
            have nb := numF_bd n0 n1 n2
            refine ⟨_, _, rfl, fun y m d hv e => ?_, nb.1, nb.2, hb13.trans (hb4.mono hb13.size)⟩
            obtain ⟨⟨r0, _⟩, ⟨r1, _⟩, ⟨r2, _⟩⟩ := HALL.out y m d hv e
            rw [r0, r1, r2]
            unfold numF
            rw [if_pos ((valid_iff y m d).2 hv)]
            exact ⟨rfl, rfl⟩
    · have hx : ¬ ((s[4].toNat : Int) = 45) := by assumption
      have hno : ∀ y m d : Nat, l ≠ Let.date y m d := fun y m d e => by
        have e1 := (HD.out y m d e).1
        rw [G4.out (by omega)] at e1
        rw [e1] at hx; simp at hx
      have HN := Lib.hid hno
      clear hno
      go_ret2
      exact ⟨_, _, rfl, fun y m d _ e => absurd e (HN.out y m d), by omega, by omega, Below.refl _ _⟩
  · have hne : ((s.size : Int) != 10) = true := by rw [bne_iff_ne]; omega
    have hno : ∀ y m d : Nat, l ≠ Let.date y m d := fun y m d e => h10 (by rw [hsz, e, date_list]; rfl)
    have HN := Lib.hid hno
    clear hno hsz hsl h10
    go_enter Tryd.func18, Tryd.ntmps18
    go_wp2_with fail
    go_ret2
    exact ⟨_, _, rfl, fun y m d _ e => absurd e (HN.out y m d), by omega, by omega, Below.refl _ _⟩
end Go.Proofs.YtojjemokejmcjaaDoor.RL
