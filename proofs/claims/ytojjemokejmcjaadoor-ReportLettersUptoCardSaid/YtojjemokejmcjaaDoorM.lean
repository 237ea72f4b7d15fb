/- A sentence's two words read back. -/
import Derived.Test.YtojjemokejmcjaaDoorL
namespace Go.Proofs.YtojjemokejmcjaaDoor.RL
open Go.RowKit Go.Sort Arr

theorem S_data (l : List UInt8) : (S l).data.toList = l := rfl
theorem cutp_any (R f : List UInt8) (w : World) : Calls Tryd.prog 37 #[.string (S R), .string (S f)] w fun e w' => e = .returned (.tuple #[.string (S (Lib.trimPrefix R f)), .bool (Lib.hasPrefix R f)]) ∧ w = w' :=
  (Tryd.strings_CutPrefix (S R) (S f) w).mono fun _ _ ⟨he, hw⟩ => ⟨he, hw.symm⟩
theorem cuts_any (R f : List UInt8) (w : World) (h : R.length ≤ 2000000) : Calls Tryd.prog 38 #[.string (S R), .string (S f)] w fun e w' => e = .returned (.tuple #[.string (S (Lib.trimSuffix R f)), .bool (Lib.hasSuffix R f)]) ∧ w = w' :=
  (Tryd.strings_CutSuffix (S R) (S f) w (by rw [S_size]; omega)).mono fun _ _ ⟨he, hw⟩ => ⟨he, hw.symm⟩
theorem cut_any (R f : List UInt8) (w : World) (h : R.length ≤ 2000000) (E : Env w) : Calls Tryd.prog 15 #[.string (S R), .string (S f)] w fun e w' => e = .returned (.tuple #[.string (S (Lib.cut R f).1), .string (S (Lib.cut R f).2.1), .bool (Lib.cut R f).2.2]) ∧ ∃ n, w' = w.drewN n := by
  obtain ⟨m, hm⟩ := E.mx
  exact Tryd.strings_Cut (S R) (S f) m w (by rw [S_size]; omega) hm

theorem trimPrefix_le (R f : List UInt8) : (Lib.trimPrefix R f).length ≤ R.length := by unfold Lib.trimPrefix; split <;> simp
theorem trimSuffix_le (R f : List UInt8) : (Lib.trimSuffix R f).length ≤ R.length := by unfold Lib.trimSuffix; split <;> simp [List.length_take]
theorem cut1_le (R f : List UInt8) : (Lib.cut R f).1.length ≤ R.length := by unfold Lib.cut; split <;> simp [List.length_take]; omega
theorem cut2_le (R f : List UInt8) : (Lib.cut R f).2.1.length ≤ R.length := by unfold Lib.cut; split <;> simp
theorem hasPrefix_app (f r : List UInt8) : Lib.hasPrefix (f ++ r) f = true := by
  unfold Lib.hasPrefix; rw [List.isPrefixOf_iff_prefix]; exact List.prefix_append _ _
theorem trimPrefix_app (f r : List UInt8) : Lib.trimPrefix (f ++ r) f = r := by
  unfold Lib.trimPrefix; rw [if_pos (hasPrefix_app f r), List.drop_left]
theorem hasSuffix_app (r f : List UInt8) : Lib.hasSuffix (r ++ f) f = true := by
  unfold Lib.hasSuffix; rw [List.isSuffixOf_iff_suffix]; exact List.suffix_append _ _
theorem trimSuffix_app (r f : List UInt8) : Lib.trimSuffix (r ++ f) f = r := by
  unfold Lib.trimSuffix; rw [if_pos (hasSuffix_app r f), List.length_append, Nat.add_sub_cancel, List.take_left]

theorem isD_ne32 {c : UInt8} (h : Let.isD c = true) : c ≠ 32 := fun e => by rw [e] at h; exact absurd h (by decide)
theorem dec_no32 (u : Nat) : ∀ x ∈ Lib.decDigits u, x ≠ 32 := fun x hx => isD_ne32 (Let.decDigits_D u x hx)
theorem amt_no32 (u : Nat) : ∀ x ∈ Let.amt u, x ≠ 32 := fun x hx => by
  unfold Let.amt at hx
  rcases List.mem_append.1 hx with h | h
  · exact isD_ne32 (Let.decDigits_D _ x h)
  · rcases List.mem_append.1 h with h | h
    · rw [List.mem_singleton] at h; rw [h]; decide
    · exact isD_ne32 (Let.pad_D 2 _ x h)
/-- What a sentence's words are, when it is taken apart. -/
theorem sent_parts (k : Int) (h1 : 1 ≤ k) (h2 : k ≤ 9) (loan x : Nat) :
    Lib.hasPrefix (Let.sent k loan x) (Let.fst k) = true ∧ Lib.hasSuffix (Lib.trimPrefix (Let.sent k loan x) (Let.fst k)) (Let.lst k) = true ∧
      Lib.cut (Lib.trimSuffix (Lib.trimPrefix (Let.sent k loan x) (Let.fst k)) (Let.lst k)) (Let.mid k) = (if Let.af k = true then (Let.amt x, Lib.decDigits loan, true) else (Lib.decDigits loan, Let.amt x, true)) := by
  obtain ⟨t, ht⟩ := Let.mid_head k h1 h2
  unfold Let.sent
  rw [hasPrefix_app, trimPrefix_app]
  cases Let.af k
  · have e : (if (false = true) then Let.amt x ++ (Let.mid k ++ (Lib.decDigits loan ++ Let.lst k)) else Lib.decDigits loan ++ (Let.mid k ++ (Let.amt x ++ Let.lst k))) = (Lib.decDigits loan ++ (Let.mid k ++ Let.amt x)) ++ Let.lst k := by
      rw [if_neg (by decide)]; simp only [List.append_assoc]
    rw [e, hasSuffix_app, trimSuffix_app, ht, Let.cut_at _ _ _ _ (dec_no32 loan)]
    exact ⟨rfl, rfl, rfl⟩
  · have e : (if (true = true) then Let.amt x ++ (Let.mid k ++ (Lib.decDigits loan ++ Let.lst k)) else Lib.decDigits loan ++ (Let.mid k ++ (Let.amt x ++ Let.lst k))) = (Let.amt x ++ (Let.mid k ++ Lib.decDigits loan)) ++ Let.lst k := by
      rw [if_pos rfl]; simp only [List.append_assoc]
    rw [e, hasSuffix_app, trimSuffix_app, ht, Let.cut_at _ _ _ _ (amt_no32 x)]
    exact ⟨rfl, rfl, rfl⟩

def FiPost (k : Int) (R : List UInt8) (w : World) (e : Ending) (w' : World) : Prop :=
  ∃ (n x : Int) (b : Bool), e = .returned (.tuple #[.int .i64 n, .int .i64 x, .bool b]) ∧
    (∀ loan amount : Nat, loan < 9223372036854775808 → amount < 9223372036854775808 → R = Let.sent k loan amount → n = loan ∧ x = amount ∧ b = true) ∧
    (-9223372036854775808 ≤ n ∧ n ≤ 9223372036854775807) ∧ (-9223372036854775808 ≤ x ∧ x ≤ 9223372036854775807) ∧ Below w.heap.size w w'

set_option maxRecDepth 100000 in
set_option maxHeartbeats 4000000 in
theorem fill_any (k : Int) (h1 : 1 ≤ k) (h2 : k ≤ 9) (R : List UInt8) (hR : R.length ≤ 2000000) (w : World) (E : Env w) :
    Calls Tryd.prog 19 #[.agg #[.string (S (Let.fst k)), .string (S (Let.mid k)), .string (S (Let.lst k)), .bool (Let.af k)], .string (S R)] w (FiPost k R w) := by
  have HP : Hid (∀ loan x : Nat, R = Let.sent k loan x → Lib.hasPrefix R (Let.fst k) = true ∧ Lib.hasSuffix (Lib.trimPrefix R (Let.fst k)) (Let.lst k) = true ∧
      Lib.cut (Lib.trimSuffix (Lib.trimPrefix R (Let.fst k)) (Let.lst k)) (Let.mid k) = (if Let.af k = true then (Let.amt x, Lib.decDigits loan, true) else (Lib.decDigits loan, Let.amt x, true))) :=
    fun loan x e => by rw [e]; exact sent_parts k h1 h2 loan x
  have E1 : ∀ o, Env (w.alloc o) := fun o => E.below ((Below.refl _ _).alloc (Nat.le_refl _) _)
  generalize Let.fst k = f at *
  generalize Let.lst k = q at *
  generalize Let.mid k = m at *
  have C1 := fun W => cutp_any R f W
  have l1 := trimPrefix_le R f
  generalize Lib.trimPrefix R f = R1 at *
  generalize Lib.hasPrefix R f = b1 at *
  have C2 := fun W => cuts_any R1 q W (by omega)
  have l2 := trimSuffix_le R1 q
  generalize Lib.trimSuffix R1 q = R2 at *
  generalize Lib.hasSuffix R1 q = b2 at *
  have C3 := fun W E => cut_any R2 m W (by omega) E
  have l3 := cut1_le R2 m
  have l4 := cut2_le R2 m
  generalize Lib.cut R2 m = c at *
  obtain ⟨o, t, b3⟩ := c
  simp only at l3 l4
  have L1 : o.length ≤ 2000000 := by omega
  have L2 : t.length ≤ 2000000 := by omega
  clear l1 l2 l3 l4 h1 h2
  cases ha : Let.af k
  · rw [ha] at HP
    have HA := Lib.hid ha
    clear ha
    by_cases hb : b1 = true ∧ b2 = true ∧ b3 = true
    · obtain ⟨rfl, rfl, rfl⟩ := hb
      go_enter Tryd.func19, Tryd.ntmps19
      go_wp2_with (first
        | (go_at_call 37; refine (C1 _).mono ?_; rintro e w' ⟨rfl, rfl⟩)
        | (go_at_call 38; refine (C2 _).mono ?_; rintro e w' ⟨rfl, rfl⟩)
        | (go_at_call 15; refine (C3 _ (E1 _)).mono ?_; rintro e w' ⟨rfl, n3, rfl⟩))
      have hbw : Below w.heap.size w ((w.alloc (Obj.cells #[.string (S f), .string (S m), .string (S q), .bool false] 31)).drewN n3) := below_drewN ((Below.refl _ _).alloc (Nat.le_refl _) _) n3
      refine (number_any (S o) o rfl L1 _ (E.below hbw)).mono ?_
      rintro e w2 ⟨n, c1, rfl, hn, hn0, hn1, hb2⟩
      have HN := Lib.hid hn
      clear hn
      go_wp2_with fail
      refine (parse_any (S t) t rfl L2 _).mono ?_
      rintro e w3 ⟨x, c2, rfl, hx, hx0, hx1, rfl⟩
      have HX := Lib.hid hx
      clear hx
      cases c1
      all_goals
        go_wp2_with fail
        go_ret3
        refine ⟨_, _, _, rfl, fun loan amount hl hm e => ?_, ⟨hn0, hn1⟩, ⟨hx0, hx1⟩, hbw.trans (hb2.mono hbw.size)⟩
        have P := (HP.out loan amount e).2.2
        simp only [Bool.false_eq_true, if_false, Prod.mk.injEq] at P
        have p1 := HN.out loan hl P.1
        have p2 := HX.out amount hm P.2.1
        first
          | exact absurd p1.2 (by decide)
          | exact ⟨p1.1, p2.1, p2.2⟩
    · have hno : Hid (∀ loan x : Nat, R ≠ Let.sent k loan x) := fun loan x e => by
        have P := HP.out loan x e
        simp only [Bool.false_eq_true, if_false, Prod.mk.injEq] at P
        exact hb ⟨P.1, P.2.1, P.2.2.2.2⟩
      go_enter Tryd.func19, Tryd.ntmps19
      cases b1
      · go_wp2_with (first
          | (go_at_call 37; refine (C1 _).mono ?_; rintro e w' ⟨rfl, rfl⟩)
          | (go_at_call 38; refine (C2 _).mono ?_; rintro e w' ⟨rfl, rfl⟩)
          | (go_at_call 15; refine (C3 _ (E1 _)).mono ?_; rintro e w' ⟨rfl, n3, rfl⟩))
        go_ret3
        exact ⟨_, _, _, rfl, fun loan x _ _ e => absurd e (hno.out loan x), by omega, by omega, below_drewN ((Below.refl _ _).alloc (Nat.le_refl _) _) n3⟩
      · cases b2
        · go_wp2_with (first
            | (go_at_call 37; refine (C1 _).mono ?_; rintro e w' ⟨rfl, rfl⟩)
            | (go_at_call 38; refine (C2 _).mono ?_; rintro e w' ⟨rfl, rfl⟩)
            | (go_at_call 15; refine (C3 _ (E1 _)).mono ?_; rintro e w' ⟨rfl, n3, rfl⟩))
          go_ret3
          exact ⟨_, _, _, rfl, fun loan x _ _ e => absurd e (hno.out loan x), by omega, by omega, below_drewN ((Below.refl _ _).alloc (Nat.le_refl _) _) n3⟩
        · have hb3 : b3 = false := by cases b3 <;> simp_all
          subst hb3
          go_wp2_with (first
            | (go_at_call 37; refine (C1 _).mono ?_; rintro e w' ⟨rfl, rfl⟩)
            | (go_at_call 38; refine (C2 _).mono ?_; rintro e w' ⟨rfl, rfl⟩)
            | (go_at_call 15; refine (C3 _ (E1 _)).mono ?_; rintro e w' ⟨rfl, n3, rfl⟩))
          go_ret3
          exact ⟨_, _, _, rfl, fun loan x _ _ e => absurd e (hno.out loan x), by omega, by omega, below_drewN ((Below.refl _ _).alloc (Nat.le_refl _) _) n3⟩
  · rw [ha] at HP
    have HA := Lib.hid ha
    clear ha
    by_cases hb : b1 = true ∧ b2 = true ∧ b3 = true
    · obtain ⟨rfl, rfl, rfl⟩ := hb
      go_enter Tryd.func19, Tryd.ntmps19
      go_wp2_with (first
        | (go_at_call 37; refine (C1 _).mono ?_; rintro e w' ⟨rfl, rfl⟩)
        | (go_at_call 38; refine (C2 _).mono ?_; rintro e w' ⟨rfl, rfl⟩)
        | (go_at_call 15; refine (C3 _ (E1 _)).mono ?_; rintro e w' ⟨rfl, n3, rfl⟩))
      have hbw : Below w.heap.size w ((w.alloc (Obj.cells #[.string (S f), .string (S m), .string (S q), .bool true] 31)).drewN n3) := below_drewN ((Below.refl _ _).alloc (Nat.le_refl _) _) n3
      refine (number_any (S t) t rfl L2 _ (E.below hbw)).mono ?_
      rintro e w2 ⟨n, c1, rfl, hn, hn0, hn1, hb2⟩
      have HN := Lib.hid hn
      clear hn
      go_wp2_with fail
      refine (parse_any (S o) o rfl L1 _).mono ?_
      rintro e w3 ⟨x, c2, rfl, hx, hx0, hx1, rfl⟩
      have HX := Lib.hid hx
      clear hx
      cases c1
      all_goals
        go_wp2_with fail
        go_ret3
        refine ⟨_, _, _, rfl, fun loan amount hl hm e => ?_, ⟨hn0, hn1⟩, ⟨hx0, hx1⟩, hbw.trans (hb2.mono hbw.size)⟩
        have P := (HP.out loan amount e).2.2
        simp only [if_true, Prod.mk.injEq] at P
        have p1 := HN.out loan hl P.2.1
        have p2 := HX.out amount hm P.1
        first
          | exact absurd p1.2 (by decide)
          | exact ⟨p1.1, p2.1, p2.2⟩
    · have hno : Hid (∀ loan x : Nat, R ≠ Let.sent k loan x) := fun loan x e => by
        have P := HP.out loan x e
        simp only [if_true, Prod.mk.injEq] at P
        exact hb ⟨P.1, P.2.1, P.2.2.2.2⟩
      go_enter Tryd.func19, Tryd.ntmps19
      cases b1
      · go_wp2_with (first
          | (go_at_call 37; refine (C1 _).mono ?_; rintro e w' ⟨rfl, rfl⟩)
          | (go_at_call 38; refine (C2 _).mono ?_; rintro e w' ⟨rfl, rfl⟩)
          | (go_at_call 15; refine (C3 _ (E1 _)).mono ?_; rintro e w' ⟨rfl, n3, rfl⟩))
        go_ret3
        exact ⟨_, _, _, rfl, fun loan x _ _ e => absurd e (hno.out loan x), by omega, by omega, below_drewN ((Below.refl _ _).alloc (Nat.le_refl _) _) n3⟩
      · cases b2
        · go_wp2_with (first
            | (go_at_call 37; refine (C1 _).mono ?_; rintro e w' ⟨rfl, rfl⟩)
            | (go_at_call 38; refine (C2 _).mono ?_; rintro e w' ⟨rfl, rfl⟩)
            | (go_at_call 15; refine (C3 _ (E1 _)).mono ?_; rintro e w' ⟨rfl, n3, rfl⟩))
          go_ret3
          exact ⟨_, _, _, rfl, fun loan x _ _ e => absurd e (hno.out loan x), by omega, by omega, below_drewN ((Below.refl _ _).alloc (Nat.le_refl _) _) n3⟩
        · have hb3 : b3 = false := by cases b3 <;> simp_all
          subst hb3
          go_wp2_with (first
            | (go_at_call 37; refine (C1 _).mono ?_; rintro e w' ⟨rfl, rfl⟩)
            | (go_at_call 38; refine (C2 _).mono ?_; rintro e w' ⟨rfl, rfl⟩)
            | (go_at_call 15; refine (C3 _ (E1 _)).mono ?_; rintro e w' ⟨rfl, n3, rfl⟩))
          go_ret3
          exact ⟨_, _, _, rfl, fun loan x _ _ e => absurd e (hno.out loan x), by omega, by omega, below_drewN ((Below.refl _ _).alloc (Nat.le_refl _) _) n3⟩
end Go.Proofs.YtojjemokejmcjaaDoor.RL
