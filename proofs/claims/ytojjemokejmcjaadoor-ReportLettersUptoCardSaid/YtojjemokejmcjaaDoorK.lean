/- money.Parse: an amount read. -/
import Derived.Test.YtojjemokejmcjaaDoorJ
namespace Go.Proofs.YtojjemokejmcjaaDoor.RL
open Go.RowKit Go.Sort Arr

def WsPost (neg : Bool) (m : Int) (w : World) (e : Ending) (w' : World) : Prop :=
  ∃ (n : Int) (b : Bool), e = .returned (.tuple #[.int .i64 n, .bool b]) ∧ (neg = false → m ≤ 9223372036854775807 → n = m ∧ b = true) ∧ -9223372036854775808 ≤ n ∧ n ≤ 9223372036854775807 ∧ w = w'

set_option maxHeartbeats 800000 in
theorem wsign_any (neg : Bool) (m : Int) (h0 : 0 ≤ m) (h1 : m ≤ 9223372036854775808) (w : World) :
    Calls Tryd.prog 57 #[.bool neg, .int .u64 m] w (WsPost neg m w) := by
  cases neg
  · by_cases h : m ≤ 9223372036854775807
    all_goals
      go_enter Tryd.func57, Tryd.ntmps57
      go_wp2
      go_ret2
      first
        | exact ⟨_, _, rfl, fun _ _ => ⟨rfl, rfl⟩, by omega, by omega, rfl⟩
        | exact ⟨_, _, rfl, fun _ hh => by omega, by omega, by omega, rfl⟩
  · go_enter Tryd.func57, Tryd.ntmps57
    go_wp2
    go_ret2
    refine ⟨_, _, rfl, (fun hh => by cases hh), ?_, ?_, rfl⟩
    all_goals (simp only [wrap64, IntKind.wrap_u64]; omega)

/-- What stands in a text but what is no digit. -/
def dg (l : List UInt8) : List UInt8 := l.filter Let.isD

theorem dg_app (a b : List UInt8) : dg (a ++ b) = dg a ++ dg b := by unfold dg; rw [List.filter_append]
theorem dg_D (l : List UInt8) (h : Let.AllD l) : dg l = l := by unfold dg; rw [List.filter_eq_self]; exact h
theorem getD_app_l (a b : List UInt8) (k : Nat) (h : k < a.length) : (a ++ b).getD k 0 = a.getD k 0 := by
  simp only [List.getD, List.getElem?_append_left h]
theorem getD_app_r (a b : List UInt8) (k : Nat) : (a ++ b).getD (a.length + k) 0 = b.getD k 0 := by
  simp only [List.getD, List.getElem?_append_right (Nat.le_add_right _ _), Nat.add_sub_cancel_left]
theorem getD_D (l : List UInt8) (h : Let.AllD l) (k : Nat) (hk : k < l.length) : Let.isD (l.getD k 0) = true := by
  simp only [List.getD, List.getElem?_eq_getElem hk, Option.getD_some]; exact h _ (List.getElem_mem hk)
theorem dec_head (u : Nat) : 1 ≤ u → (Lib.decDigits u).getD 0 0 ≠ 48 := by
  induction u using Nat.strongRecOn with
  | _ u ih =>
    intro hu
    by_cases h : u < 10
    · rw [Let.decDigits_small u h]
      intro e
      have e2 := congrArg UInt8.toNat e
      simp at e2
      omega
    · rw [Let.decDigits_big u h, getD_app_l _ _ _ (by have := Let.decDigits_ne (u / 10); exact List.length_pos_iff.2 this)]
      exact ih (u / 10) (by omega) (by omega)
structure AmtIs (x : Nat) (a : List UInt8) : Prop where
  len : 4 ≤ a.length
  point : a.getD (a.length - 3) 0 = 46
  zero : a.getD 0 0 = 48 → a.length = 4
  first : Let.isD (a.getD 0 0) = true
  digit : ∀ k, k < a.length → k ≠ a.length - 3 → Let.isD (a.getD k 0) = true
  value : Let.val 0 (dg a) = x
theorem amt_is_of (x u : Nat) (ds cs : List UInt8) (hD : Let.AllD ds) (hne : 0 < ds.length) (hz : ds.getD 0 0 = 48 → ds.length = 1) (hv : Let.val 0 ds = u) (hcl : cs.length = 2) (hcD : Let.AllD cs) (hval : Let.val u cs = x) :
    AmtIs x (ds ++ ([46] ++ cs)) := by
  have hlen : (ds ++ ([46] ++ cs)).length = ds.length + 3 := by simp [hcl]
  have h46 : dg [46] = [] := by decide
  refine ⟨by omega, ?_, ?_, ?_, ?_, ?_⟩
  · rw [hlen, show ds.length + 3 - 3 = ds.length + 0 by omega, getD_app_r]; rfl
  · rw [getD_app_l _ _ _ hne, hlen]; intro e; rw [hz e]
  · rw [getD_app_l _ _ _ hne]; exact getD_D _ hD 0 hne
  · intro k hk hn
    rw [hlen] at hk hn
    by_cases h : k < ds.length
    · rw [getD_app_l _ _ _ h]; exact getD_D _ hD k h
    · obtain ⟨j, rfl⟩ : ∃ j, k = ds.length + (1 + j) := ⟨k - ds.length - 1, by omega⟩
      rw [getD_app_r]
      have := getD_app_r [46] cs j
      simp only [List.length_cons, List.length_nil] at this
      rw [show 0 + 1 + j = 1 + j by omega] at this
      rw [this]
      exact getD_D _ hcD j (by omega)
  · rw [dg_app, dg_app, h46, dg_D _ hD, dg_D _ hcD, List.nil_append, Let.val_app, hv, hval]
theorem amt_is (x : Nat) : AmtIs x (Let.amt x) := by
  refine amt_is_of x (x / 100) (Lib.decDigits (x / 100)) (Let.cents (x % 100)) (Let.decDigits_D _) (List.length_pos_iff.2 (Let.decDigits_ne _)) ?_ (Let.val_dec _) (Let.pad_length 2 _) (Let.pad_D 2 _) ?_
  · intro e
    by_cases h : 1 ≤ x / 100
    · exact absurd e (dec_head _ h)
    · rw [Let.decDigits_small _ (by omega)]; rfl
  · have hc : Let.cents (x % 100) = [UInt8.ofNat (48 + x % 100 / 10 % 10), UInt8.ofNat (48 + x % 100 % 10)] := rfl
    rw [hc, Let.val_cons, Let.val_one _ _ (by omega)]
    have : (UInt8.ofNat (48 + x % 100 / 10 % 10)).toNat = 48 + x % 100 / 10 % 10 := by simp; omega
    rw [this]; omega

theorem dg_take (l : List UInt8) (k : Nat) (h : k < l.length) : dg (l.take (k + 1)) = dg (l.take k) ++ (if Let.isD (l.getD k 0) = true then [l.getD k 0] else []) := by
  rw [take_snoc l k h, dg_app]
  unfold dg
  generalize l.getD k 0 = c0
  by_cases c : Let.isD c0 = true
  · rw [if_pos c]; simp [c]
  · rw [if_neg c]; simp [c]
/-- A part of the digits is worth no more than all of them. -/
theorem val_part (l : List UInt8) (k : Nat) : Let.val 0 (dg (l.take k)) ≤ Let.val 0 (dg l) := by
  have : dg l = dg (l.take k) ++ dg (l.drop k) := by rw [← dg_app, List.take_append_drop]
  rw [this, Let.val_app]; exact Let.val_le _ _

def PaPost (l : List UInt8) (w : World) (e : Ending) (w' : World) : Prop :=
  ∃ (n : Int) (b : Bool), e = .returned (.tuple #[.int .i64 n, .bool b]) ∧ (∀ x : Nat, x < 9223372036854775808 → l = Let.amt x → n = x ∧ b = true) ∧ -9223372036854775808 ≤ n ∧ n ≤ 9223372036854775807 ∧ w = w'

set_option maxRecDepth 100000 in
set_option maxHeartbeats 4000000 in
theorem parse_any (s : ByteArray) (l : List UInt8) (hsl : s.data.toList = l) (hlen : l.length ≤ 2000000) (w : World) :
    Calls Tryd.prog 39 #[.string s] w (PaPost l w) := by
  have hsz : s.size = l.length := by rw [← hsl, Array.length_toList]; rfl
  have hle : s.size ≤ 2000000 := by omega
  have HF : Hid (∀ x : Nat, l = Let.amt x → 0 < s.size ∧ ∀ h : 0 < s.size, Let.isD s[0] = true) := fun x e => by
    have A := amt_is x
    rw [← e] at A
    have h0 : 0 < s.size := by have := A.len; omega
    refine ⟨h0, fun h => ?_⟩
    rw [← getD_byte s 0 h, hsl]; exact A.first
  have HSL := Lib.hid hsl
  clear hsl hsz hlen
  go_enter Tryd.func39, Tryd.ntmps39
  go_upto_region 3 with fail
  · by_cases h45 : (s[0].toNat : Int) = 45
    all_goals
      go_upto_region 5 with fail
      go_cut [4, 5, 6] (fun v4 v5 v6 wx => ∃ (t : ByteArray) (b : Bool), v4 = .string t ∧ v5 = .bool b ∧ v6 = .int .i64 ((t.size : Int) - 3) ∧ t.size ≤ 2000000 ∧ Hid (∀ x : Nat, l = Let.amt x → t = s ∧ b = false) ∧ w = wx)
      · go_wp2_with fail
        go_meet
        refine ⟨_, _, rfl, rfl, (by first | rfl | simp), ?_, ?_, rfl⟩
        · first | exact hle | (rw [ByteArray.size_extract]; omega)
        · intro x e
          obtain ⟨q0, q1⟩ := HF.out x e
          have q2 := Let.isD_bd (q1 q0)
          first
            | (exact absurd h45 (by omega))
            | exact ⟨rfl, by rw [beq_eq_false_iff_ne]; exact h45⟩
      · obtain ⟨t, b, rfl, rfl, rfl, ht, HT, rfl⟩ := hcut
        clear h45 hle
        by_cases h4 : 4 ≤ t.size
        · have e1 : ((t.size : Int) - 3).toNat = t.size - 3 := by omega
          have k3 : t.size - 3 < t.size := by omega
          have k0 : 0 < t.size := by omega
          have HL : Hid (∀ x : Nat, l = Let.amt x → t.data.toList = l ∧ b = false) := fun x e => ⟨by rw [(HT.out x e).1]; exact HSL.out, (HT.out x e).2⟩
          have hlen : t.data.toList.length = t.size := by rw [Array.length_toList]; rfl
          have hgp : t.data.toList.getD (t.size - 3) 0 = t[t.size - 3] := getD_byte t _ k3
          have hg0 : t.data.toList.getD 0 0 = t[0] := getD_byte t 0 k0
          have HA : Hid (∀ x : Nat, l = Let.amt x → (t[t.size - 3] = 46 ∧ (t[0] = 48 → t.size = 4)) ∧ b = false ∧ (∀ k, k < t.size → k ≠ t.size - 3 → Let.isD (t.data.toList.getD k 0) = true) ∧ Let.val 0 (dg t.data.toList) = x) := fun x e => by
            obtain ⟨f1, f2⟩ := HL.out x e
            have A := amt_is x
            rw [← e, ← f1] at A
            have a1 := A.point
            have a2 := A.zero
            have a3 := A.digit
            rw [hlen] at a1 a2 a3
            rw [hgp] at a1
            rw [hg0] at a2
            exact ⟨⟨a1, a2⟩, f2, a3, A.value⟩
          have HLEN := Lib.hid hlen
          clear hlen hgp hg0 HF HT HL HSL
          go_wp2_with fail
          · have hx0 : (t[0].toNat : Int) = 48 := by assumption
            have hno : Hid (∀ x : Nat, l ≠ Let.amt x) := fun x e => by
              have q := (HA.out x e).1.2 (UInt8.toNat_inj.1 (by simp; omega))
              omega
            go_ret2
            exact ⟨_, _, rfl, fun x _ e => absurd e (hno.out x), by omega, by omega, rfl⟩
          rotate_left 2
          · have hx0 : ¬ (t[t.size - 3].toNat : Int) = 46 := by assumption
            have hno : Hid (∀ x : Nat, l ≠ Let.amt x) := fun x e => by
              have q := (HA.out x e).1.1
              rw [q] at hx0; simp at hx0
            go_ret2
            exact ⟨_, _, rfl, fun x _ e => absurd e (hno.out x), by omega, by omega, rfl⟩
          all_goals
            have hp46 : (t[t.size - 3].toNat : Int) = 46 := by assumption
            have HP := Lib.hid hp46
            clear hp46
            go_loop [7, 8, 9] (fun v7 v8 _ => ∃ (k m : Nat), k ≤ t.size ∧ v8 = .int .i64 k ∧ v7 = .int .u64 m ∧ Hid (m ≤ 9223372036854775808) ∧ Hid (m = Let.val 0 (dg (t.data.toList.take k)))) (fun _ v8 _ => t.size - (intOf v8).toNat)
            case atStart => exact ⟨0, 0, Nat.zero_le _, rfl, rfl, by unfold Hid; omega, rfl⟩
            case round =>
              obtain ⟨k, m, hk, rfl, rfl, hm, hv⟩ := hrel
              by_cases hlt : k < t.size
              · have HDT := Lib.hid (dg_take t.data.toList k (by rw [HLEN.out]; exact hlt))
                by_cases hkp : (k : Int) = (t.size : Int) - 3
                · have hkp' : ((k : Int) == (t.size : Int) - 3) = true := by simpa using hkp
                  have HK := Lib.hid hkp
                  clear hkp
                  go_wp2_with fail
                  go_round
                  case rel =>
                    refine ⟨k + 1, m, by omega, by go_num, rfl, hm, ?_⟩
                    show m = _
                    have ek : k = t.size - 3 := by have := HK.out; omega
                    have en : Let.isD (t.data.toList.getD k 0) = false := by
                      have e46 : (t.data.toList.getD k 0) = 46 := by
                        rw [ek, getD_byte t _ k3]
                        exact UInt8.toNat_inj.1 (by have := HP.out; simp; omega)
                      rw [e46]; decide
                    rw [HDT.out, en, if_neg (by decide), List.append_nil]; exact hv.out
                  case measure => simp [intOf]; omega
                · have hkp' : ((k : Int) == (t.size : Int) - 3) = false := by simpa using hkp
                  have hkne : k ≠ t.size - 3 := by omega
                  have HK := Lib.hid hkne
                  clear hkp hkne
                  have hgk := getD_byte t k hlt
                  rw [hgk] at HDT
                  by_cases hd : 48 ≤ (t[k].toNat : Int) ∧ (t[k].toNat : Int) ≤ 57
                  · obtain ⟨hd1, hd2⟩ := hd
                    have hcd : Let.isD t[k] = true := by unfold Let.isD; rw [decide_eq_true (by omega), decide_eq_true (by omega)]; rfl
                    have HC := Lib.hid hcd
                    have HG := Lib.hid hgk
                    clear hcd hgk
                    have hnew : Hid (Let.val 0 (dg (t.data.toList.take (k + 1))) = 10 * m + (t[k].toNat - 48)) := by
                      show _ = _
                      rw [HDT.out, HC.out, if_pos rfl, Let.val_app, Let.val_cons, Let.val_nil, ← hv.out]
                    have hm' : (m : Int) ≤ 9223372036854775808 := by have := hm.out; omega
                    by_cases hov : (9223372036854775808 - ((t[k].toNat : Int) - 48)) / 10 < (m : Int)
                    · have hno : Hid (∀ x : Nat, x < 9223372036854775808 → l ≠ Let.amt x) := fun x hx e => by
                        have q := (HA.out x e).2.2.2
                        have p := val_part t.data.toList (k + 1)
                        rw [q, hnew.out] at p
                        omega
                      go_wp2_with fail
                      go_ret2
                      exact ⟨_, _, rfl, fun x hx e => absurd e (hno.out x hx), by omega, by omega, rfl⟩
                    · have hm2 : Hid (10 * m + (t[k].toNat - 48) ≤ 9223372036854775808) := by unfold Hid; omega
                      go_wp2_with fail
                      go_round
                      case rel =>
                        refine ⟨k + 1, 10 * m + (t[k].toNat - 48), by omega, by go_num, ?_, hm2, ?_⟩
                        · congr 1; omega
                        · show _ = _
                          exact hnew.out.symm
                      case measure => simp [intOf]; omega
                  · have hno : Hid (∀ x : Nat, l ≠ Let.amt x) := fun x e => by
                      have q := (HA.out x e).2.2.1 k hlt HK.out
                      rw [hgk] at q
                      have := Let.isD_bd q
                      exact hd (by omega)
                    clear hgk
                    by_cases h48 : (t[k].toNat : Int) < 48
                    all_goals
                      go_wp2_with fail
                      go_ret2
                      exact ⟨_, _, rfl, fun x _ e => absurd e (hno.out x), by omega, by omega, rfl⟩
              · obtain rfl : k = t.size := by omega
                have hm0 : (0 : Int) ≤ m := by omega
                have hm' : (m : Int) ≤ 9223372036854775808 := by have := hm.out; omega
                have C := wsign_any b m hm0 hm' w
                have hfin : Hid (∀ x : Nat, l = Let.amt x → m = x ∧ b = false) := fun x e => by
                  obtain ⟨_, q2, _, q4⟩ := HA.out x e
                  have := hv.out
                  rw [List.take_of_length_le (by rw [HLEN.out]; exact Nat.le_refl _)] at this
                  exact ⟨this.trans q4, q2⟩
                have hmb : Hid ((m : Int) ≤ 9223372036854775808) := hm'
                clear hm'
                cases b
                · go_wp2_with (go_at_call 57; refine C.mono ?_; rintro e w1 ⟨n, b', rfl, hn, hn0, hn1, rfl⟩; have HN := Lib.hid hn; clear hn)
                  go_ret2
                  refine ⟨n, b', rfl, fun x hx e => ?_, hn0, hn1, rfl⟩
                  have q := (hfin.out x e).1
                  have r := HN.out (by first | trivial | rfl) (by omega)
                  exact ⟨by rw [r.1, q], r.2⟩
                · by_cases hmz : (m : Int) = 0
                  · have hmz' : ((m : Int) == 0) = true := by simpa using hmz
                    have HMZ := Lib.hid hmz
                    clear hmz
                    go_wp2_with fail
                    go_ret2
                    exact ⟨_, _, rfl, fun x _ e => absurd (hfin.out x e).2 (by decide), by omega, by omega, rfl⟩
                  · have hmz' : ((m : Int) == 0) = false := by simpa using hmz
                    have HMZ := Lib.hid hmz
                    clear hmz
                    go_wp2_with (go_at_call 57; refine C.mono ?_; rintro e w1 ⟨n, b', rfl, hn, hn0, hn1, rfl⟩; have HN := Lib.hid hn; clear hn)
                    go_ret2
                    exact ⟨_, _, rfl, fun x _ e => absurd (hfin.out x e).2 (by decide), hn0, hn1, rfl⟩
        · have hp : (t.size : Int) - 3 < 1 := by omega
          have hno : Hid (∀ x : Nat, l ≠ Let.amt x) := fun x e => by
            have A := (amt_is x).len
            rw [← e] at A
            have := (HT.out x e).1
            rw [this] at h4
            have e2 := congrArg List.length (HSL.out : s.data.toList = l)
            rw [Array.length_toList] at e2
            have : s.size = s.data.size := rfl
            omega
          go_wp2_with fail
          go_ret2
          exact ⟨_, _, rfl, fun x _ e => absurd e (hno.out x), by omega, by omega, rfl⟩
  · have hno : Hid (∀ x : Nat, l ≠ Let.amt x) := fun x e => absurd (HF.out x e).1 (by assumption)
    have hz : s.size = 0 := by omega
    have hz' : (s.size : Int) - 3 < 1 := by omega
    have HZ := Lib.hid hz
    clear hz HF
    go_wp2_with fail
    go_ret2
    exact ⟨_, _, rfl, fun x _ e => absurd e (hno.out x), by omega, by omega, rfl⟩
end Go.Proofs.YtojjemokejmcjaaDoor.RL
