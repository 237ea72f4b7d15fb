/- The reference's runs of digits. -/
import Derived.Test.YtojjemokejmcjaaDoorI
import Derived.WalkKit
namespace Go.Proofs.YtojjemokejmcjaaDoor.RL
open Go.RowKit Go.Sort Arr

theorem info3 : (Tryd.prog.info? 3).map (fun i => (i.zero, i.size, i.bytes)) = some (some (.int .i64 0), 1, 8) := by kernel_rfl

theorem digit_any (c : UInt8) (w : World) : Calls Tryd.prog 40 #[.int .u8 c.toNat] w fun e w' => e = .returned (.bool (Let.isD c)) ∧ w = w' := by
  have hlt := UInt8.toNat_lt c
  have h : Let.isD c = (decide (48 ≤ c.toNat) && decide (c.toNat ≤ 57)) := rfl
  rw [h]
  generalize c.toNat = n at hlt ⊢
  go_enter Tryd.func40, Tryd.ntmps40
  by_cases h1 : 48 ≤ n
  · by_cases h2 : n ≤ 57
    · have z1 : (48 : Int) ≤ n := by omega
      have z2 : (n : Int) ≤ 57 := by omega
      go_wp2
      go_ret
      simp [h1, h2]
    · have z1 : (48 : Int) ≤ n := by omega
      have z2 : ¬ (n : Int) ≤ 57 := by omega
      go_wp2
      go_ret
      first | (simp; done) | (simp; omega)
  · have z1 : ¬ (48 : Int) ≤ n := by omega
    go_wp2
    go_ret
    first | (simp; done) | (simp; omega)

/-- What a run of digits is read as. -/
def Gv (g : List UInt8) (v : Int) : Prop := -9223372036854775808 ≤ v ∧ v ≤ 9223372036854775807 ∧ (g.length ≤ 19 → Let.val 0 g ≤ 9223372036854775807 → v = Let.val 0 g)
inductive Gvs : List (List UInt8) → List Int → Prop
  | nil : Gvs [] []
  | snoc {G g L v} : Gvs G L → Gv g v → Gvs (G ++ [g]) (L ++ [v])
theorem Gvs.len {G L} (h : Gvs G L) : G.length = L.length := by
  induction h with
  | nil => rfl
  | snoc _ _ ih => simp [ih]

structure Ru (R : List UInt8) (k : Nat) (L : List Int) (n : Int) (wd : Nat) (G : List (List UInt8)) (acc : List UInt8) : Prop where
  all : Let.AllD acc
  len : acc.length = wd
  gv : Gvs G L
  lo : -9223372036854775808 ≤ n
  hi : n ≤ 9223372036854775807
  val : acc.length ≤ 19 → Let.val 0 acc ≤ 9223372036854775807 → n = Let.val 0 acc
  rest : Let.grp [] R = G ++ Let.grp acc (R.drop k)
  few : L.length + acc.length ≤ k
  fin : k = R.length + 1 → acc = []

def RuPost (R : List UInt8) (w : World) (e : Ending) (w' : World) : Prop :=
  ∃ (v : Value) (L : List Int), e = .returned v ∧ w'.ownsRow w.heap.size 3 1 v L.length (L.map (Value.int .i64)) ∧ Hid (Gvs (Let.grp [] R) L) ∧ L.length ≤ 2000001 ∧ Below w.heap.size w w'

theorem getD_drop (R : List UInt8) (k : Nat) (h : k < R.length) : R.drop k = R.getD k 0 :: R.drop (k + 1) := by
  rw [List.drop_eq_getElem_cons h]; simp [List.getD, List.getElem?_eq_getElem h]
theorem val_snoc (acc : List UInt8) (c : UInt8) : Let.val 0 (acc ++ [c]) = 10 * Let.val 0 acc + (c.toNat - 48) := by
  rw [Let.val_app, Let.val_cons, Let.val_nil]
theorem Ru.dig {R : List UInt8} {k : Nat} {L : List Int} {n v : Int} {wd : Nat} {G acc} (h : Ru R k L n wd G acc) (hk : k < R.length) (hd : Let.isD (R.getD k 0) = true)
    (v0 : -9223372036854775808 ≤ v) (v1 : v ≤ 9223372036854775807) (hv : acc.length < 19 → n = Let.val 0 acc → 10 * n + ((R.getD k 0).toNat - 48) ≤ 9223372036854775807 → v = 10 * n + ((R.getD k 0).toNat - 48)) :
    Ru R (k + 1) L v (wd + 1) G (acc ++ [R.getD k 0]) := by
  have hb := Let.isD_bd hd
  refine ⟨Let.AllD_app h.all (fun x hx => by rw [List.mem_singleton] at hx; rw [hx]; exact hd), by simp [h.len], h.gv, v0, v1, ?_, ?_, by have := h.few; simp; omega, fun e => by omega⟩
  · intro hl hm
    rw [val_snoc] at hm ⊢
    simp only [List.length_append, List.length_singleton] at hl
    have e := h.val (by omega) (by omega)
    have := hv (by omega) e (by omega)
    omega
  · rw [h.rest, getD_drop R k hk]
    simp only [Let.grp]
    rw [if_pos hd]
theorem Ru.big {R : List UInt8} {k : Nat} {L : List Int} {n : Int} {wd : Nat} {G acc} (h : Ru R k L n wd G acc) (hk : k < R.length) (hd : Let.isD (R.getD k 0) = true) (hw : 19 ≤ wd) :
    Ru R (k + 1) L n (wd + 1) G (acc ++ [R.getD k 0]) :=
  h.dig hk hd h.lo h.hi (fun hl => by have := h.len; omega)
theorem Ru.skip {R : List UInt8} {k : Nat} {L : List Int} {n : Int} {G acc} (h : Ru R k L n 0 G acc) (hk : k < R.length) (hd : Let.isD (R.getD k 0) = false) :
    Ru R (k + 1) L n 0 G acc := by
  have e : acc = [] := List.eq_nil_of_length_eq_zero h.len
  refine ⟨h.all, h.len, h.gv, h.lo, h.hi, h.val, ?_, by have := h.few; omega, fun _ => e⟩
  rw [h.rest, getD_drop R k hk, e]
  simp only [Let.grp]
  rw [if_neg (by rw [hd]; simp), if_pos trivial]
theorem Ru.push {R : List UInt8} {k : Nat} {L : List Int} {n : Int} {wd : Nat} {G acc} (h : Ru R k L n wd G acc) (hk : k < R.length) (hd : Let.isD (R.getD k 0) = false) (hw : 0 < wd) :
    Ru R (k + 1) (L ++ [n]) 0 0 (G ++ [acc]) [] := by
  have e : acc ≠ [] := fun e => by have := h.len; rw [e] at this; simp at this; omega
  refine ⟨Let.AllD_nil, rfl, h.gv.snoc ⟨h.lo, h.hi, h.val⟩, by omega, by omega, fun _ _ => rfl, ?_, by have := h.few; have := h.len; simp; omega, fun _ => rfl⟩
  rw [h.rest, getD_drop R k hk]
  simp only [Let.grp]
  rw [if_neg (by rw [hd]; simp), if_neg e]; simp
theorem Ru.endNo {R : List UInt8} {L : List Int} {n : Int} {G acc} (h : Ru R R.length L n 0 G acc) : Ru R (R.length + 1) L n 0 G acc := by
  refine ⟨h.all, h.len, h.gv, h.lo, h.hi, h.val, ?_, by have := h.few; omega, fun _ => List.eq_nil_of_length_eq_zero h.len⟩
  rw [h.rest, List.drop_length, List.drop_of_length_le (by omega)]
theorem Ru.endPush {R : List UInt8} {L : List Int} {n : Int} {wd : Nat} {G acc} (h : Ru R R.length L n wd G acc) (hw : 0 < wd) : Ru R (R.length + 1) (L ++ [n]) 0 0 (G ++ [acc]) [] := by
  have e : acc ≠ [] := fun e => by have := h.len; rw [e] at this; simp at this; omega
  refine ⟨Let.AllD_nil, rfl, h.gv.snoc ⟨h.lo, h.hi, h.val⟩, by omega, by omega, fun _ _ => rfl, ?_, by have := h.few; have := h.len; simp; omega, fun _ => rfl⟩
  rw [h.rest, List.drop_length, List.drop_of_length_le (by omega)]
  simp only [Let.grp]
  rw [if_neg e]; simp

theorem wrap64_rng (x : Int) : -9223372036854775808 ≤ wrap64 x ∧ wrap64 x ≤ 9223372036854775807 := by
  unfold wrap64; omega
theorem wrap64_id (x : Int) (h0 : -9223372036854775808 ≤ x) (h1 : x ≤ 9223372036854775807) : wrap64 x = x := by
  unfold wrap64; omega

set_option maxRecDepth 100000 in
set_option maxHeartbeats 4000000 in
theorem runs_any (R : List UInt8) (hR : R.length ≤ 2000000) (w : World) :
    Calls Tryd.prog 20 #[.string (S R)] w (RuPost R w) := by
  obtain ⟨i0, hi, hz0, hz1, hz2⟩ := info_parts info3
  have hS : (S R).size = R.length := S_size R
  go_enter Tryd.func20, Tryd.ntmps20
  go_wp2_with fail
  go_loopw [3, 4, 5, 6] (fun v3 v4 v5 v6 wr => ∃ (k : Nat) (L : List Int) (n : Int) (wd : Nat), k ≤ R.length + 1 ∧ v6 = .int .i64 k ∧ v4 = .int .i64 n ∧ v5 = .int .i64 wd ∧
      wr.ownsRow w.heap.size 3 1 v3 L.length (L.map (Value.int .i64)) ∧ Below w.heap.size w wr ∧ Hid (∃ G acc, Ru R k L n wd G acc)) (fun _ _ _ v6 _ => R.length + 1 - (intOf v6).toNat)
  case atStart => exact ⟨0, [], 0, 0, by omega, rfl, rfl, rfl, World.ownsRow_nil _ _ _ _, Below.refl _ _, ⟨[], [], ⟨Let.AllD_nil, rfl, .nil, by omega, by omega, fun _ _ => rfl, by simp, by simp, fun _ => rfl⟩⟩⟩
  case round =>
    obtain ⟨k, L, n, wd, hk, rfl, rfl, rfl, hown, hB, HR⟩ := hrel
    obtain ⟨G, acc, hr⟩ := HR.out
    have hwk : L.length + wd ≤ k := by have := hr.few; rw [hr.len] at this; exact this
    have n0 := hr.lo
    have n1 := hr.hi
    have HR := Lib.hid hr
    clear hr
    have HO := Lib.hid hown
    have HB := Lib.hid hB
    clear hown hB
    by_cases hlt : k < R.length
    · have HG := Lib.hid (fun (h : k < (S R).size) => (show (S R)[k] = R.getD k 0 from by simp [S, List.getD, List.getElem?_eq_getElem hlt]; rfl))
      have hget : (S R)[k]'(by rw [hS]; exact hlt) = R.getD k 0 := HG.out _
      generalize hc : R.getD k 0 = c at hget
      clear HG
      cases hd : Let.isD c
      · have hd' : Let.isD (R.getD k 0) = false := by rw [hc]; exact hd
        by_cases hw : 0 < wd
        · have HN := Lib.hid (HR.out.push hlt hd' hw)
          go_wp2_with (first
            | (go_at_call 40; refine (digit_any c _).mono ?_; rw [hd]; rintro e w' ⟨rfl, rfl⟩)
            | (at_builtin; refine wpList_append_own _ rfl _ _ 43 rfl w.heap.size 3 i0 (.int .i64 0) 1 8 Tryd.underlying43 hi hz0 hz1 hz2 rfl (by decide) _ _ _ rfl (HO.out.alloc _) ⟨wr.heap.size, 0, none⟩ 1 1 [.int .i64 n] rfl rfl ?c1 ?c2 ?c3 ?c4 ?c5 ?_))
          case c1 =>
            intro j u hj
            match j, hj with
            | 0, hj => simp at hj; subst hj; simp [Addr.add]
          case c2 => intro u hu; simp at hu; subst hu; rfl
          case c3 => unfold maxLen; omega
          case c4 => omega
          case c5 => have := HB.out.size; simp; omega
          intro v' w1 hown' hgrow _
          have HO' : Hid (w1.ownsRow w.heap.size 3 1 v' (L ++ [n]).length ((L ++ [n]).map (Value.int .i64))) := by
            show w1.ownsRow _ _ _ _ _ _
            simpa using hown'
          have HB' : Hid (Below w.heap.size w w1) := (HB.out.alloc HB.out.size _).grown hgrow (by have := HB.out.size; simp; omega) (fun j hj => (HO.out.lt j hj).1)
          clear hown' hgrow
          go_wp2_with fail
          go_roundw
          case rel => exact ⟨k + 1, L ++ [n], 0, 0, by omega, rfl, rfl, rfl, HO'.out, HB'.out, _, _, HN.out⟩
          case measure => simp [intOf]; omega
        · obtain rfl : wd = 0 := by omega
          have HN := Lib.hid (HR.out.skip hlt hd')
          go_wp2_with (go_at_call 40; refine (digit_any c _).mono ?_; rw [hd]; rintro e w' ⟨rfl, rfl⟩)
          go_roundw
          case rel => exact ⟨k + 1, L, n, 0, by omega, rfl, rfl, rfl, HO.out, HB.out, _, _, HN.out⟩
          case measure => simp [intOf]; omega
      · have hd' : Let.isD (R.getD k 0) = true := by rw [hc]; exact hd
        obtain ⟨hb1, hb2⟩ := Let.isD_bd hd
        by_cases hw : wd < 19
        · have HN : Hid (∀ v : Int, -9223372036854775808 ≤ v → v ≤ 9223372036854775807 → (acc.length < 19 → n = Let.val 0 acc → 10 * n + (c.toNat - 48) ≤ 9223372036854775807 → v = 10 * n + (c.toNat - 48)) → Ru R (k + 1) L v (wd + 1) G (acc ++ [R.getD k 0])) :=
            fun v a b h => HR.out.dig hlt hd' a b (by rw [hc]; exact h)
          go_wp2_with (go_at_call 40; refine (digit_any c _).mono ?_; rw [hd]; rintro e w' ⟨rfl, rfl⟩)
          go_roundw
          case rel =>
            refine ⟨k + 1, L, wrap64 (wrap64 (10 * n) + ((c.toNat : Int) - 48)), wd + 1, by omega, rfl, rfl, rfl, HO.out, HB.out, _, _, HN.out _ ?_ ?_ ?_⟩
            · exact (wrap64_rng _).1
            · exact (wrap64_rng _).2
            · intro _ _ h
              rw [wrap64_id (10 * n) (by omega) (by omega), wrap64_id _ (by omega) (by omega)]
          case measure => simp [intOf]; omega
        · have HN := Lib.hid (HR.out.big hlt hd' (by omega))
          go_wp2_with (go_at_call 40; refine (digit_any c _).mono ?_; rw [hd]; rintro e w' ⟨rfl, rfl⟩)
          go_roundw
          case rel => exact ⟨k + 1, L, n, wd + 1, by omega, rfl, rfl, rfl, HO.out, HB.out, _, _, HN.out⟩
          case measure => simp [intOf]; omega
    · by_cases hend : k = R.length
      · subst hend
        by_cases hw : 0 < wd
        · have HN := Lib.hid (HR.out.endPush hw)
          go_wp2_with (at_builtin; refine wpList_append_own _ rfl _ _ 43 rfl w.heap.size 3 i0 (.int .i64 0) 1 8 Tryd.underlying43 hi hz0 hz1 hz2 rfl (by decide) _ _ _ rfl (HO.out.alloc _) ⟨wr.heap.size, 0, none⟩ 1 1 [.int .i64 n] rfl rfl ?c1 ?c2 ?c3 ?c4 ?c5 ?_)
          case c1 =>
            intro j u hj
            match j, hj with
            | 0, hj => simp at hj; subst hj; simp [Addr.add]
          case c2 => intro u hu; simp at hu; subst hu; rfl
          case c3 => unfold maxLen; omega
          case c4 => omega
          case c5 => have := HB.out.size; simp; omega
          intro v' w1 hown' hgrow _
          have HO' : Hid (w1.ownsRow w.heap.size 3 1 v' (L ++ [n]).length ((L ++ [n]).map (Value.int .i64))) := by
            show w1.ownsRow _ _ _ _ _ _
            simpa using hown'
          have HB' : Hid (Below w.heap.size w w1) := (HB.out.alloc HB.out.size _).grown hgrow (by have := HB.out.size; simp; omega) (fun j hj => (HO.out.lt j hj).1)
          clear hown' hgrow
          go_wp2_with fail
          go_roundw
          case rel => exact ⟨R.length + 1, L ++ [n], 0, 0, by omega, rfl, rfl, rfl, HO'.out, HB'.out, _, _, HN.out⟩
          case measure => simp [intOf]
        · obtain rfl : wd = 0 := by omega
          have HN := Lib.hid HR.out.endNo
          go_wp2_with fail
          go_roundw
          case rel => exact ⟨R.length + 1, L, n, 0, by omega, rfl, rfl, rfl, HO.out, HB.out, _, _, HN.out⟩
          case measure => simp [intOf]
      · obtain rfl : k = R.length + 1 := by omega
        go_wp2_with fail
        go_ret
        have HD : Hid (Gvs (Let.grp [] R) L) := by
          have h := HR.out
          have e := h.fin rfl
          have hr := h.rest
          rw [e, List.drop_of_length_le (by omega)] at hr
          have hg := h.gv
          have e2 : G = Let.grp [] R := by rw [hr]; simp [Let.grp]
          rw [e2] at hg
          exact hg
        exact ⟨_, L, rfl, HO.out, HD, by omega, HB.out⟩
end Go.Proofs.YtojjemokejmcjaaDoor.RL
