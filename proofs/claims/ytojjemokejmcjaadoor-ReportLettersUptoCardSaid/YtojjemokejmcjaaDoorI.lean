/- Texts read: digits, a date. -/
import Derived.Test.YtojjemokejmcjaaDoorC
import Derived.Test.YtojjemokejmcjaaDoorF
import Derived.Lib.AtoiErrMem
namespace Go.Proofs.YtojjemokejmcjaaDoor.RL
open Go.RowKit Go.Sort Arr

/-- '[]byte(s)': a new row that holds the text's bytes. -/
theorem conv_bytes (w : World) (s : ByteArray) (l : List UInt8) (hl : s.data.toList = l) : ∃ (g cap : Nat) (W : World), (convert 9 50 (.string s)).run Tryd.prog w = .ok (.slice (some ⟨g, 0, none⟩) l.length cap) W ∧
    (∀ k, k < l.length → W.cell? ⟨g, k, none⟩ = some (.int .u8 ((l.getD k 0).toNat : Int))) ∧ Below w.heap.size w W := by
  have hsz : s.size = l.length := by rw [← hl, Array.length_toList]; rfl
  refine ⟨w.heap.size, grownCap w s.size 0 5, Lib.bytesWorld w 5 s, ?_, fun k hk => ?_, Lib.bytesWorld_below w 5 s⟩
  · have h := Lib.run_convert_string_bytes (P := Tryd.prog) w 9 50 5 s Tryd.underlying9 Tryd.underlying50 Tryd.underlying5
    rw [← hsz]; exact h
  · rw [Lib.bytesWorld_cell w 5 s k (by omega), hl]

theorem take_snoc (l : List UInt8) (k : Nat) (h : k < l.length) : l.take (k + 1) = l.take k ++ [l.getD k 0] := by
  rw [List.take_succ_eq_append_getElem h]; simp [List.getD, List.getElem?_eq_getElem h]
theorem val_bd (l : List UInt8) : ∀ acc, Let.AllD l → Let.val acc l < (acc + 1) * 10 ^ l.length := by
  induction l with
  | nil => intro acc _; rw [Let.val_nil]; simp
  | cons c r ih =>
    intro acc h
    have hc := Let.isD_bd (h c (by simp))
    have := ih (10 * acc + (c.toNat - 48)) (fun x hx => h x (by simp [hx]))
    rw [Let.val_cons]
    refine Nat.lt_of_lt_of_le this ?_
    rw [List.length_cons, Nat.pow_succ, Nat.mul_comm (10 ^ r.length) 10, ← Nat.mul_assoc]
    exact Nat.mul_le_mul_right _ (by omega)
theorem pow_le10 (n : Nat) (h : n ≤ 10) : 10 ^ n ≤ 10000000000 := by
  have : 10 ^ n ≤ 10 ^ 10 := Nat.pow_le_pow_right (by omega) h
  simpa using this
theorem not_AllD (l : List UInt8) (k : Nat) (h : k < l.length) (hk : ¬ (48 ≤ (l.getD k 0).toNat ∧ (l.getD k 0).toNat ≤ 57)) : ¬ Let.AllD l := by
  intro hD
  have := Let.isD_bd (hD (l.getD k 0) (by simp [List.getD, List.getElem?_eq_getElem h]))
  exact hk this

def DigPost (l : List UInt8) (w : World) (e : Ending) (w' : World) : Prop :=
  ∃ (n : Int) (b : Bool), e = .returned (.tuple #[.int .i64 n, .bool b]) ∧ (Let.AllD l → n = Let.val 0 l ∧ b = true) ∧ Below w.heap.size w w'

set_option maxRecDepth 100000 in
set_option maxHeartbeats 2000000 in
theorem digits_any (s : ByteArray) (l : List UInt8) (hsl : s.data.toList = l) (hs : l.length ≤ 10) (w : World) :
    Calls Tryd.prog 35 #[.string s] w (DigPost l w) := by
  obtain ⟨g, cap, W, hconv, hc, hb⟩ := conv_bytes w s l hsl
  clear hsl
  go_enter Tryd.func35, Tryd.ntmps35
  go_wp2_with fail
  go_loop [4, 6, 10] (fun v4 _ v10 => ∃ k : Nat, k ≤ l.length ∧ v10 = .int .i64 k ∧ v4 = .int .i64 (Let.val 0 (l.take k) : Nat) ∧ Hid (Let.AllD (l.take k))) (fun _ _ v10 => l.length - (intOf v10).toNat)
  case atStart => exact ⟨0, Nat.zero_le _, rfl, rfl, by intro c hc; simp at hc⟩
  case round =>
    obtain ⟨k, hk, rfl, rfl, hA⟩ := hrel
    have hvb : Let.val 0 (l.take k) < 10000000000 := by
      have := val_bd (l.take k) 0 hA.out
      have h2 := pow_le10 (l.take k).length (by rw [List.length_take]; omega)
      omega
    by_cases hlt : k < l.length
    · have hcell := hc k hlt
      by_cases hd : 48 ≤ (l.getD k 0).toNat ∧ (l.getD k 0).toNat ≤ 57
      · have HT := Lib.hid (take_snoc l k hlt)
        have hcd : Let.isD (l.getD k 0) = true := by unfold Let.isD; rw [decide_eq_true hd.1, decide_eq_true hd.2]; rfl
        have HC := Lib.hid hcd
        clear hc hcd
        obtain ⟨hd1, hd2⟩ := hd
        generalize (l.getD k 0) = c at *
        have hd1' : (48 : Int) ≤ (c.toNat : Int) := by omega
        have hd2' : (c.toNat : Int) ≤ 57 := by omega
        go_wp2_with fail
        go_round
        case rel =>
          refine ⟨k + 1, by omega, by go_num, ?_, ?_⟩
          · rw [HT.out, Let.val_app, Let.val_cons, Let.val_nil]
            congr 1
            omega
          · show Let.AllD _
            rw [HT.out]
            exact Let.AllD_app hA.out (fun x hx => by rw [List.mem_singleton] at hx; rw [hx]; exact HC.out)
        case measure => simp [intOf]; omega
      · have hno := Lib.hid (not_AllD l k hlt hd)
        clear hc
        generalize (l.getD k 0) = c at *
        by_cases h48 : (c.toNat : Int) < 48
        all_goals
          have h57 : ¬ (48 ≤ (c.toNat : Int) ∧ (c.toNat : Int) ≤ 57) := by omega
          go_wp2_with fail
          go_ret2
          exact ⟨0, false, rfl, fun h => absurd h hno.out, hb⟩
    · go_wp2_with fail
      go_ret2
      refine ⟨_, true, rfl, fun _ => ⟨?_, rfl⟩, hb⟩
      rw [List.take_of_length_le (by omega)]
def NumPost (l : List UInt8) (w : World) (e : Ending) (w' : World) : Prop :=
  ∃ (n : Int) (b : Bool), e = .returned (.tuple #[.int .i64 n, .bool b]) ∧ (∀ u, u < 9223372036854775808 → l = Lib.decDigits u → n = u ∧ b = true) ∧ -9223372036854775808 ≤ n ∧ n ≤ 9223372036854775807 ∧ Below w.heap.size w w'

theorem below_atoi {w w' : World} (h : w' = w ∨ ∃ t, w' = Lib.bytesWorld w 5 t) : Below w.heap.size w w' := by
  rcases h with rfl | ⟨t, rfl⟩
  · exact Below.refl _ _
  · exact Lib.bytesWorld_below w 5 t
theorem atoi_bd {l : List UInt8} {v : Int} (h : Lib.atoiAll l = .ok v) : -9223372036854775808 ≤ v ∧ v ≤ 9223372036854775807 := by
  have := Lib.atoiAll_bounds h; omega

set_option maxRecDepth 100000 in
set_option maxHeartbeats 2000000 in
theorem number_any (s : ByteArray) (l : List UInt8) (hsl : s.data.toList = l) (hs : l.length ≤ 2000000) (w : World) (E : Env w) :
    Calls Tryd.prog 17 #[.string s] w (NumPost l w) := by
  have hsz : s.size = l.length := by rw [← hsl, Array.length_toList]; rfl
  have hsz' : s.size ≤ 2000000 := by omega
  clear hsz
  have hbad : Lib.atoiAll l ≠ .ok 0 → True := fun _ => trivial
  cases hat : Lib.atoiAll s.data.toList with
  | ok v =>
    have C := Tryd.strconv_Atoi_ok s (by omega) v hat w
    obtain ⟨v0, v1⟩ := atoi_bd hat
    have hfin : ∀ u, u < 9223372036854775808 → l = Lib.decDigits u → v = u ∧ Lib.itoa v = l := by
      intro u hu e
      rw [hsl, e, Let.atoi_dec u hu] at hat
      injection hat with hat
      subst hat
      exact ⟨rfl, by rw [Let.itoa_dec, e]⟩
    have HF := Lib.hid hfin
    have HS := Lib.hid hsl
    clear hat hfin hbad hsl
    go_enter Tryd.func17, Tryd.ntmps17
    go_wp2_with (first
      | (go_at_call 34; refine C.mono ?_; rintro e w1 ⟨rfl, hw1⟩; have hb1 := below_atoi hw1; clear hw1)
      | (go_at_call 10; refine (itoa_any v v0 v1 _ (E.below hb1)).mono ?_; rintro e w2 ⟨rfl, hb2⟩))
    go_ret2
    refine ⟨v, _, rfl, ?_, v0, v1, hb1.trans (hb2.mono hb1.size)⟩
    intro u hu e
    obtain ⟨e1, e2⟩ := HF.out u hu e
    refine ⟨e1, ?_⟩
    have e3 : s.data.toList = l := HS.out
    show ((S (Lib.itoa v)).toList == s.toList) = true
    have e4 : S (Lib.itoa v) = s := by
      rw [e2, ← e3]; apply ByteArray.ext; simp [S]
    rw [e4]; simp
  | range =>
    obtain ⟨te, pe, hv⟩ := E.rng
    have C := Tryd.strconv_Atoi_range s (by omega) hat _ w hv (Or.inr ⟨te, pe, rfl⟩)
    have hno : ∀ u, u < 9223372036854775808 → l ≠ Lib.decDigits u := by
      intro u hu e
      rw [hsl, e, Let.atoi_dec u hu] at hat
      cases hat
    obtain ⟨sb0, sb1⟩ := Lib.atoiSat_bounds s.data.toList
    generalize Lib.atoiSat s.data.toList = sat at *
    have HF := Lib.hid hno
    clear hat hno hbad hsl hv
    go_enter Tryd.func17, Tryd.ntmps17
    go_wp2_with (go_at_call 34; refine C.mono ?_; rintro e w1 ⟨N, rfl, _, _, hb1⟩)
    go_ret2
    exact ⟨_, _, rfl, fun u hu e => absurd e (HF.out u hu), by omega, by omega, hb1⟩
  | _ =>
    obtain ⟨te, pe, hv⟩ := E.syn
    have C := Tryd.strconv_Atoi_syntax s (by omega) hat _ w hv (Or.inr ⟨te, pe, rfl⟩)
    have hno : ∀ u, u < 9223372036854775808 → l ≠ Lib.decDigits u := by
      intro u hu e
      rw [hsl, e, Let.atoi_dec u hu] at hat
      cases hat
    have HF := Lib.hid hno
    clear hat hno hbad hsl hv
    go_enter Tryd.func17, Tryd.ntmps17
    go_wp2_with (go_at_call 34; refine C.mono ?_; rintro e w1 ⟨N, rfl, _, _, hb1⟩)
    go_ret2
    exact ⟨_, _, rfl, fun u hu e => absurd e (HF.out u hu), by omega, by omega, hb1⟩
end Go.Proofs.YtojjemokejmcjaaDoor.RL
