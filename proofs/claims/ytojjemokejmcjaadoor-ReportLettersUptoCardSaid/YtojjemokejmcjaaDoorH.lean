/- The reference's date as a text. -/
import Derived.Test.YtojjemokejmcjaaDoorC
import Derived.Test.YtojjemokejmcjaaDoorD
import Derived.Test.YtojjemokejmcjaaDoorF
import Derived.Deep.RegionHeld3
namespace Go.Proofs.YtojjemokejmcjaaDoor.RL
open Go.RowKit Go.Sort Arr

theorem pad_val : ∀ (w : Nat) (l : List UInt8), l.length = w → Let.AllD l → l = Let.pad w (Let.val 0 l)
  | 0, l, hl, _ => by
    have : l = [] := List.eq_nil_of_length_eq_zero hl
    subst this; rfl
  | w + 1, l, hl, hD => by
    have hne : l ≠ [] := fun e => by rw [e] at hl; simp at hl
    have hsplit := List.dropLast_concat_getLast hne
    have hc := hD (l.getLast hne) (List.getLast_mem hne)
    have hlen : l.dropLast.length = w := by simp [hl]
    have ih := pad_val w l.dropLast hlen (fun c hc => hD c (List.dropLast_subset l hc))
    have hbd := Let.isD_bd hc
    generalize hx : l.getLast hne = c at hsplit hc hbd
    generalize l.dropLast = d at hsplit ih
    rw [← hsplit, Let.val_app]
    have hv : Let.val (Let.val 0 d) [c] = 10 * Let.val 0 d + (c.toNat - 48) := by rw [Let.val_cons, Let.val_nil]
    rw [hv]
    simp only [Let.pad]
    rw [show (10 * Let.val 0 d + (c.toNat - 48)) / 10 = Let.val 0 d by omega, ← ih, show (10 * Let.val 0 d + (c.toNat - 48)) % 10 = c.toNat - 48 by omega, show 48 + (c.toNat - 48) = c.toNat by omega]
    simp
theorem dec_len_le (w : Nat) : ∀ n, n < 10 ^ (w + 1) → (Lib.decDigits n).length ≤ w + 1 := by
  induction w with
  | zero => intro n h; rw [Let.decDigits_small n (by simpa using h)]; simp
  | succ w ih =>
    intro n h
    by_cases hs : n < 10
    · rw [Let.decDigits_small n hs]; simp
    · rw [Let.decDigits_big n hs]
      have := ih (n / 10) (by rw [Nat.pow_succ] at h; omega)
      simp; omega
theorem val_zero (l : List UInt8) : Let.val 0 (48 :: l) = Let.val 0 l := by rw [Let.val_cons]; rfl

set_option maxHeartbeats 1000000 in
theorem padded_any (n k : Nat) (x y : Int) (hx : x = n) (hy : y = (k + 1 : Nat)) (hk : k < 4) (hn : n < 10 ^ (k + 1)) (w : World) (E : Env w) :
    Calls Tryd.prog 29 #[.int .i64 x, .int .i64 y] w fun e w' => ∃ s, e = .returned (.string s) ∧ Hid (s = S (Let.pad (k + 1) n)) ∧ s.size ≤ 20 ∧ Below w.heap.size w w' := by
  subst hx hy
  have hpow : 10 ^ (k + 1) ≤ 10 ^ 5 := Nat.pow_le_pow_right (by omega) (by omega)
  have C := itoa_any (n : Int) (by omega) (by omega) w E
  rw [Let.itoa_dec] at C
  have hlen := dec_len_le k n hn
  have hD := Let.decDigits_D n
  have hv := Lib.hid (Let.val_dec n)
  generalize Lib.decDigits n = ds at C hlen hD hv
  clear hn hpow
  have HD := Lib.hid hD
  clear hD
  go_enter Tryd.func29, Tryd.ntmps29
  go_wp2_with (go_at_call 10; refine C.mono ?_; rintro e w1 ⟨rfl, hb⟩)
  go_loop [5] (fun v => ∃ (s : ByteArray) (l : List UInt8), v = .string s ∧ Hid (s = S l) ∧ s.size = l.length ∧ l.length ≤ k + 1 ∧ Hid (Let.AllD l) ∧ Hid (Let.val 0 l = n)) (fun v => match v with | .string s => k + 1 - s.size | _ => 0)
  case atStart => exact ⟨_, ds, rfl, rfl, S_size _, hlen, HD, hv⟩
  case round =>
    obtain ⟨s, l, rfl, hs, hsl, hl, hA, hval⟩ := hrel
    have hs20 : s.size ≤ 20 := by omega
    have HSL := Lib.hid hsl
    clear hsl
    by_cases hlt : s.size < k + 1
    · have hlt' : (s.size : Int) < (k : Int) + 1 := by omega
      go_wp2_with fail
      go_round
      case rel =>
        refine ⟨_, 48 :: l, rfl, ?_, ?_, ?_, ?_, ?_⟩
        · have := hs.out
          subst this
          show _ = _
          rw [show (48 :: l) = [48] ++ l from rfl, ← S_app]; rfl
        · have e1 : s.size = l.length := HSL.out
          rw [ByteArray.size_append, e1]
          show 1 + l.length = _
          rw [List.length_cons]; omega
        · have e1 : s.size = l.length := HSL.out
          rw [List.length_cons]; omega
        · intro c hc
          rcases List.mem_cons.1 hc with rfl | h
          · decide
          · exact hA.out c h
        · show _ = _
          rw [val_zero]; exact hval.out
      case measure =>
        show k + 1 - (ByteArray.size (_ ++ s)) < k + 1 - s.size
        rw [ByteArray.size_append]
        show k + 1 - (1 + s.size) < _
        omega
    · have hge : (k : Int) + 1 ≤ s.size := by omega
      go_wp2_with fail
      go_ret
      refine ⟨s, rfl, ?_, hs20, hb⟩
      have e1 : s.size = l.length := HSL.out
      have e2 := pad_val (k + 1) l (by omega) hA.out
      rw [hval.out] at e2
      show s = _
      rw [hs.out, e2]
/-- The world under way: the date's three numbers lie in a block of the call's own. -/
structure Dat (w0 : World) (b : Nat) (y m d : Int) (W : World) : Prop where
  env : Env W
  below : Below w0.heap.size w0 W
  lo : w0.heap.size ≤ b
  lt : b < W.heap.size
theorem Dat.step {w0 : World} {b : Nat} {y m d : Int} {W W' : World} (h : Dat w0 b y m d W) (hb : Below W.heap.size W W') : Dat w0 b y m d W' :=
  ⟨h.env.below hb, h.below.trans (hb.mono h.below.size), h.lo, Nat.lt_of_lt_of_le h.lt hb.size⟩
theorem Dat.drew {w0 : World} {b : Nat} {y m d : Int} {W : World} (h : Dat w0 b y m d W) : Dat w0 b y m d W.drew := h.step ((Below.refl _ _).drew)
theorem Dat.cell {w0 : World} {b : Nat} {y m d : Int} {W W' : World} (h : Dat w0 b y m d W) (hb : Below W.heap.size W W') (o : Nat) : W'.cell? ⟨b, o, none⟩ = W.cell? ⟨b, o, none⟩ :=
  hb.cell (p := ⟨b, o, none⟩) h.lt

theorem keep_dat {w0 W W' : World} {b : Nat} {y m d : Int} (hb : Below W.heap.size W W')
    (h : W.cell? ⟨b, 0, none⟩ = some (.int .i64 y) ∧ W.cell? ⟨b, 1, none⟩ = some (.int .i64 m) ∧ W.cell? ⟨b, 2, none⟩ = some (.int .i64 d) ∧ Dat w0 b y m d W) :
    W'.cell? ⟨b, 0, none⟩ = some (.int .i64 y) ∧ W'.cell? ⟨b, 1, none⟩ = some (.int .i64 m) ∧ W'.cell? ⟨b, 2, none⟩ = some (.int .i64 d) ∧ Dat w0 b y m d W' :=
  ⟨(h.2.2.2.cell hb 0).trans h.1, (h.2.2.2.cell hb 1).trans h.2.1, (h.2.2.2.cell hb 2).trans h.2.2.1, h.2.2.2.step hb⟩
theorem env_dat {w0 W : World} {b : Nat} {y m d : Int}
    (h : W.cell? ⟨b, 0, none⟩ = some (.int .i64 y) ∧ W.cell? ⟨b, 1, none⟩ = some (.int .i64 m) ∧ W.cell? ⟨b, 2, none⟩ = some (.int .i64 d) ∧ Dat w0 b y m d W) : Env W := h.2.2.2.env
theorem below_dat {w0 W : World} {b : Nat} {y m d : Int}
    (h : W.cell? ⟨b, 0, none⟩ = some (.int .i64 y) ∧ W.cell? ⟨b, 1, none⟩ = some (.int .i64 m) ∧ W.cell? ⟨b, 2, none⟩ = some (.int .i64 d) ∧ Dat w0 b y m d W) : Below w0.heap.size w0 W := h.2.2.2.below

theorem fdateR_out (n : Int) (w : World) (h : ¬ (1 ≤ n ∧ n ≤ 3652059)) :
    Calls Tryd.prog 12 #[.int .i64 n] w fun e w' => e = .returned (.tuple #[.string ⟨#[]⟩, .bool false]) ∧ Below w.heap.size w w' := by
  have C := civilR_out n w h
  go_enter Tryd.func12, Tryd.ntmps12
  go_wp2_with (go_at_call 28; refine C.mono ?_; rintro e w1 ⟨rfl, hb⟩)
  go_ret2
  exact ⟨rfl, hb.alloc hb.size _⟩

set_option maxHeartbeats 4000000 in
theorem fdateR_in (n : Int) (w : World) (E : Env w) (h1 : 1 ≤ n) (h2 : n ≤ 3652059) :
    Calls Tryd.prog 12 #[.int .i64 n] w fun e w' => ∃ y m d : Int, e = .returned (.tuple #[.string (dateS y m d), .bool true]) ∧ Cal.Valid y m d ∧ Cal.num y m d = n ∧ Below w.heap.size w w' := by
  have C := civilR_in n w h1 h2
  go_enter Tryd.func12, Tryd.ntmps12
  go_upto_region 4 with (go_at_call 28; refine C.mono ?_; rintro e w1 ⟨y, m, d, rfl, hv, hn, hb⟩; have HN := Lib.hid hn; clear hn; have HV := Lib.hid hv; clear hv)
  have hy0 : 0 ≤ y := by have := HV.out; unfold Cal.Valid at this; omega
  have hy1 : y < 10000 := by have := HV.out; unfold Cal.Valid at this; omega
  have hm0 : 0 ≤ m := by have := HV.out; unfold Cal.Valid at this; omega
  have hm1 : m < 100 := by have := HV.out; unfold Cal.Valid at this; omega
  have hd0 : 0 ≤ d := by have := HV.out; unfold Cal.Valid at this; omega
  have hd1 : d < 100 := by have := HV.out; have := Cal.ml_range y m; unfold Cal.Valid at *; omega
  have hD : Dat w w1.heap.size y m d (w1.alloc (.cells #[.int .i64 y, .int .i64 m, .int .i64 d] 47)) :=
    ⟨(E.below hb).below ((Below.refl _ _).alloc (Nat.le_refl _) _), hb.alloc hb.size _, hb.size, by simp⟩
  have c0 : (w1.alloc (.cells #[.int .i64 y, .int .i64 m, .int .i64 d] 47)).cell? ⟨w1.heap.size, 0, none⟩ = some (.int .i64 y) := by simp [World.cell?_alloc_new]
  have c1 : (w1.alloc (.cells #[.int .i64 y, .int .i64 m, .int .i64 d] 47)).cell? ⟨w1.heap.size, 1, none⟩ = some (.int .i64 m) := by simp [World.cell?_alloc_new]
  have c2 : (w1.alloc (.cells #[.int .i64 y, .int .i64 m, .int .i64 d] 47)).cell? ⟨w1.heap.size, 2, none⟩ = some (.int .i64 d) := by simp [World.cell?_alloc_new]
  generalize w1.alloc (.cells #[.int .i64 y, .int .i64 m, .int .i64 d] 47) = W0 at *
  generalize w1.heap.size = bb at *
  clear C
  go_region_held3 (fun W => W.cell? ⟨bb, 0, none⟩ = some (.int .i64 y) ∧ W.cell? ⟨bb, 1, none⟩ = some (.int .i64 m) ∧ W.cell? ⟨bb, 2, none⟩ = some (.int .i64 d) ∧ Dat w bb y m d W)
    (first | exact ⟨c0, c1, c2, hD.drew⟩ | assumption | exact keep_dat (by assumption) (by assumption))
    (first
      | (go_at_call_of 29 (Value.int .i64 y); refine (padded_any y.toNat 3 y 4 (by omega) (by omega) (by omega) (by omega) _ (env_dat (by assumption))).mono ?_; rintro e w' ⟨s1, rfl, e1, l1, hb1⟩; have q1 : ¬ 9223372036854775807 < s1.size + 1 := by omega)
      | (go_at_call_of 29 (Value.int .i64 m); refine (padded_any m.toNat 1 m 2 (by omega) (by omega) (by omega) (by omega) _ (env_dat (by assumption))).mono ?_; rintro e w' ⟨s2, rfl, e2, l2, hb2⟩; have q2 : ¬ 9223372036854775807 < s1.size + 1 + s2.size := (by omega); have q3 : ¬ 9223372036854775807 < s1.size + 1 + s2.size + 1 := (by omega))
      | (go_at_call_of 29 (Value.int .i64 d); refine (padded_any d.toNat 1 d 2 (by omega) (by omega) (by omega) (by omega) _ (env_dat (by assumption))).mono ?_; rintro e w' ⟨s3, rfl, e3, l3, hb3⟩; have q4 : ¬ 9223372036854775807 < s1.size + 1 + s2.size + 1 + s3.size := by omega))
  go_wp2_with fail
  go_ret2
  refine ⟨y, m, d, ?_, HV.out, HN.out, below_dat (by assumption)⟩
  have es : s1 ++ ⟨#[45]⟩ ++ s2 ++ ⟨#[45]⟩ ++ s3 = dateS y m d := by
    have e1 : s1 = S (Let.pad 4 y.toNat) := e1.out
    have e2 : s2 = S (Let.pad 2 m.toNat) := e2.out
    have e3 : s3 = S (Let.pad 2 d.toNat) := e3.out
    rw [e1, e2, e3, show (⟨#[45]⟩ : ByteArray) = S [45] from rfl]
    simp only [S_app]
    unfold dateS Let.date S
    simp
  simp [es]
end Go.Proofs.YtojjemokejmcjaaDoor.RL
