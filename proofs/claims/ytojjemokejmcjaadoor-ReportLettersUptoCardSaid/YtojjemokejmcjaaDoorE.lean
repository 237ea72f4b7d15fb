/- Numbers as texts: what the walks need of the library's tables; strconv.Itoa, FormatUint at base 10. -/
import Derived.Test.YtojjemokejmcjaaDoorA
import Derived.Test.YtojjemokejmcjaaDoorShelf
import Derived.Lib.AppendIntMem
namespace Go.Proofs.YtojjemokejmcjaaDoor.RL
open Go.RowKit Go.Sort Arr

theorem gPow : Tryd.prog.globalNamed "internal/strconv.uint64pow10" = some 2 := by kernel_rfl

/-- What the library and the calendar read of their own variables. -/
structure Env (w : World) : Prop where
  tab : Tab w
  pow : Lib.TabIs Tryd.prog w "internal/strconv.uint64pow10" .u64 Lib.pow10Tab
  mx : ∃ m, w.cell? ⟨1, 0, none⟩ = some (.int .i64 m)
  syn : ∃ te pe, w.cell? ⟨3, 0, none⟩ = some (.iface te pe)
  rng : ∃ te pe, w.cell? ⟨4, 0, none⟩ = some (.iface te pe)
  lt : 6 < w.heap.size

theorem Env.below {w w' : World} (E : Env w) (hb : Below w.heap.size w w') : Env w' where
  tab := fun i h0 h1 => by rw [hb.cell (p := ⟨0, i.toNat, none⟩) (by have := E.lt; simp; omega)]; exact E.tab i h0 h1
  pow := Go.Joins.tab_stays gPow E.pow hb (Nat.le_refl _)
  mx := by obtain ⟨m, h⟩ := E.mx; exact ⟨m, by rw [hb.cell (p := ⟨1, 0, none⟩) (by have := E.lt; simp; omega)]; exact h⟩
  syn := by obtain ⟨m, p, h⟩ := E.syn; exact ⟨m, p, by rw [hb.cell (p := ⟨3, 0, none⟩) (by have := E.lt; simp; omega)]; exact h⟩
  rng := by obtain ⟨m, p, h⟩ := E.rng; exact ⟨m, p, by rw [hb.cell (p := ⟨4, 0, none⟩) (by have := E.lt; simp; omega)]; exact h⟩
  lt := Nat.lt_of_lt_of_le E.lt hb.size

theorem below_grow (w : World) (k : Nat) (os : Array Obj) : Below w.heap.size w (grow (w.drewN k) os) := by
  refine ⟨rfl, rfl, rfl, ?_, fun j hj => ?_⟩
  · show w.heap.size ≤ (w.heap ++ os).size
    simp
  · show (w.heap ++ os)[j]? = w.heap[j]?
    rw [Array.getElem?_append_left hj]

/-- The bytes of a text. -/
def S (l : List UInt8) : ByteArray := ⟨l.toArray⟩

theorem itoa_any (n : Int) (h0 : -9223372036854775808 ≤ n) (h1 : n ≤ 9223372036854775807) (w : World) (E : Env w) :
    Calls Tryd.prog 10 #[.int .i64 n] w fun e w' => e = .returned (.string (S (Lib.itoa n))) ∧ Below w.heap.size w w' :=
  (Tryd.strconv_Itoa n h0 h1 w E.pow).mono fun _ _ ⟨he, k, os, hw⟩ => ⟨he, hw ▸ below_grow w k os⟩

set_option maxRecDepth 100000 in
set_option maxHeartbeats 4000000 in
theorem fu_any (u : Nat) (hu64 : u < 18446744073709551616) (w : World) (E : Env w) :
    Calls Tryd.prog 48 #[.int .u64 u, .int .i64 10] w fun e w' => e = .returned (.string (S (Lib.decDigits u))) ∧ Below w.heap.size w w' := by
  by_cases hs : u < 100
  · go_enter Tryd.func48, Tryd.ntmps48
    go_wp2_with (go_at_call 59; refine (Tryd.internal_strconv_small u hs _).mono ?_; rintro e w' ⟨rfl, rfl⟩)
    go_ret
    exact ⟨rfl, Below.refl _ _⟩
  · have hu1 : 1 ≤ u := by omega
    have hnd20 : Lib.nDigits u ≤ 20 := by have := Lib.numDigits_eq u hu1 hu64; split at this <;> omega
    have hal : Tryd.prog.arrayLen 74 = 24 := by simp [Program.arrayLen, Tryd.underlying74]
    have hsl1 : ∀ W, (Instr.sliceAt 74 (.pointer (some ⟨w.heap.size, 0, none⟩)) none (some (.int .i64 ((Lib.nDigits u : Int)))) none).run Tryd.prog W = .ok (.slice (some ⟨w.heap.size, 0, none⟩) (Lib.nDigits u) 24) W := fun W => by
      rw [run_sliceAt_array_h W 74 ⟨w.heap.size, 0, none⟩ (by simp [Program.arrayLen, Program.elem, Tryd.underlying74]) .i64 (Lib.nDigits u : Int) (by omega) (by rw [hal]; omega)]
      go_simp
    have hH0 := Lib.holds_zero0 w 74 (Lib.nDigits u) (by omega)
    have hfmt := Tryd.internal_strconv_formatBase10 w.heap.size 0 24 u (Array.replicate (Lib.nDigits u) 0) (w.alloc (.cells Lib.zeros24 74)) hH0 (by rw [Array.size_replicate]; exact Lib.lt_pow_nDigits u) hu64 (by rw [Array.size_replicate]; omega)
    rw [Array.size_replicate] at hfmt
    have HH0 := Lib.hid hH0
    clear hH0 hal
    have htab := E.pow
    go_enter Tryd.func48, Tryd.ntmps48
    go_wp2_with (go_at_call 60; refine (Tryd.internal_strconv_numDigits u hu1 hu64 _ (Lib.tabIs_alloc htab _)).mono ?_; rintro e w' ⟨rfl, rfl⟩)
    go_at_call 61
    refine hfmt.mono ?_
    rintro e w' ⟨rfl, k, v', dk, rfl, hF⟩
    have hcv : (convert 50 9 (.slice (some ⟨w.heap.size, 0, none⟩) (Lib.nDigits u) 24)).run Tryd.prog ((putRow (fun (b : UInt8) => Value.int .u8 (b.toNat : Int)) (w.alloc (.cells Lib.zeros24 74)) w.heap.size 0 dk).drewN k) = .ok (.string (S (Lib.decDigits u))) ((putRow (fun (b : UInt8) => Value.int .u8 (b.toNat : Int)) (w.alloc (.cells Lib.zeros24 74)) w.heap.size 0 dk).drewN k) := by
      have h := run_convert_bytes_back (P := Tryd.prog) ((putRow (fun (b : UInt8) => Value.int .u8 (b.toNat : Int)) (w.alloc (.cells Lib.zeros24 74)) w.heap.size 0 dk).drewN k) 50 9 5 ⟨w.heap.size, 0, none⟩ 24 (Lib.decDigits u) Tryd.underlying50 Tryd.underlying5 Tryd.underlying9 (fun j hj => by
        rw [Lib.row_is_numeral hF j hj, Lib.add_plain, World.cell?_drewN]
        exact cell?_putRow (fun (b : UInt8) => Value.int .u8 (b.toNat : Int)) _ w.heap.size 0 _ dk HH0.out (by rw [hF.size, Array.size_replicate]) j (by rw [hF.size]; rw [Lib.decDigits_length] at hj; exact hj))
      rw [Lib.decDigits_length] at h
      exact h
    go_wp2
    go_ret
    refine ⟨rfl, ?_⟩
    rw [alloc_eq_grow]
    obtain ⟨os', _, e⟩ := putRow_grow_new (fun (b : UInt8) => Value.int .u8 (b.toNat : Int)) w #[.cells Lib.zeros24 74] w.heap.size 0 dk (Nat.le_refl _)
    rw [e]
    exact below_grow w k os'
end Go.Proofs.YtojjemokejmcjaaDoor.RL
