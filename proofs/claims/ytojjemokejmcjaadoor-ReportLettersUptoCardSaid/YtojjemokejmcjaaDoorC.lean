/- Package calendar: a date's text. -/
import Derived.Test.YtojjemokejmcjaaDoorB
import Derived.Test.YtojjemokejmcjaaDoorLet
import Derived.Handy
import Derived.Lib.SlBytesConst
import Derived.StillTailTactics
namespace Go.Proofs.YtojjemokejmcjaaDoor.RL
open Go.RowKit Arr

set_option maxHeartbeats 1000000 in
theorem put2 (b off cap : Nat) (x : Int) (u0 u1 : Value) (w : World) (hx : 0 ≤ x) (hx2 : x < 100)
    (h0 : w.cell? ⟨b, off, none⟩ = some u0) (h1 : w.cell? ⟨b, off + 1, none⟩ = some u1) (f0 : w.frozen? ⟨b, off, none⟩ = false) (f1 : w.frozen? ⟨b, off + 1, none⟩ = false) :
    Calls Tryd.prog 24 #[.slice (some ⟨b, off, none⟩) 2 cap, .int .i64 x] w fun e w' =>
      e = .returned (.tuple #[]) ∧ w' = (w.setCell ⟨b, off + 1, none⟩ (.int .u8 (48 + x % 10))).setCell ⟨b, off, none⟩ (.int .u8 (48 + x / 10 % 10)) := by
  go_enter Tryd.func24, Tryd.ntmps24
  go_wp2
  go_rounds 3
  go_end0
  exact ⟨rfl, rfl⟩

set_option maxHeartbeats 1000000 in
theorem put4 (b off cap : Nat) (x : Int) (u0 u1 u2 u3 : Value) (w : World) (hx : 0 ≤ x) (hx2 : x < 10000)
    (h0 : w.cell? ⟨b, off, none⟩ = some u0) (h1 : w.cell? ⟨b, off + 1, none⟩ = some u1) (h2 : w.cell? ⟨b, off + 2, none⟩ = some u2) (h3 : w.cell? ⟨b, off + 3, none⟩ = some u3)
    (f0 : w.frozen? ⟨b, off, none⟩ = false) (f1 : w.frozen? ⟨b, off + 1, none⟩ = false) (f2 : w.frozen? ⟨b, off + 2, none⟩ = false) (f3 : w.frozen? ⟨b, off + 3, none⟩ = false) :
    Calls Tryd.prog 24 #[.slice (some ⟨b, off, none⟩) 4 cap, .int .i64 x] w fun e w' =>
      e = .returned (.tuple #[]) ∧ w' = (((w.setCell ⟨b, off + 3, none⟩ (.int .u8 (48 + x % 10))).setCell ⟨b, off + 2, none⟩ (.int .u8 (48 + x / 10 % 10))).setCell ⟨b, off + 1, none⟩ (.int .u8 (48 + x / 10 / 10 % 10))).setCell ⟨b, off, none⟩ (.int .u8 (48 + x / 10 / 10 / 10 % 10)) := by
  go_enter Tryd.func24, Tryd.ntmps24
  go_wp2
  go_rounds 5
  go_end0
  exact ⟨rfl, rfl⟩

/-- The text of a date. -/
def dateS (y m d : Int) : ByteArray := ⟨(Let.date y.toNat m.toNat d.toNat).toArray⟩

set_option maxHeartbeats 2000000 in
theorem fdate_out (n : Int) (w : World) (h : ¬ (1 ≤ n ∧ n ≤ 3652059)) :
    Calls Tryd.prog 8 #[.int .i64 n] w fun e w' => e = .returned (.tuple #[.string ⟨#[]⟩, .bool false]) ∧ Below w.heap.size w w' := by
  have C := civil_out n w h
  go_enter Tryd.func8, Tryd.ntmps8
  go_wp2_with (go_at_call 23; refine C.mono ?_; rintro e w1 ⟨rfl, hb⟩)
  go_ret2
  exact ⟨rfl, hb.alloc hb.size _⟩

theorem conv_second (w : World) (A : Obj) (C : Array Value) (n c : Nat) :
    (convert 50 50 (.slice (some ⟨w.heap.size + 1, 0, none⟩) n c)).run Tryd.prog ((w.alloc A).alloc (.cells C 5)) = .ok (.slice (some ⟨w.heap.size + 1, 0, none⟩) n c) ((w.alloc A).alloc (.cells C 5 (C.size, C.size + 1))) := by
  have h := Lib.run_convert_bytes_const (P := Tryd.prog) (w.alloc A) 50 5 C n c Tryd.underlying50 Tryd.underlying5
  simpa using h

theorem cell_mark (w : World) (A : Obj) (C : Array Value) (j : Nat) : ((w.alloc A).alloc (.cells C 5 (10, 11))).cell? ⟨w.heap.size + 1, j, none⟩ = C[j]? := by
  have := World.cell?_alloc_mark (w.alloc A) C 5 (10, 11) j
  simpa using this
theorem frozen_mark (w : World) (A : Obj) (C : Array Value) (j : Nat) (hj : j < 10) : ((w.alloc A).alloc (.cells C 5 (10, 11))).frozen? ⟨w.heap.size + 1, j, none⟩ = false := by
  have := World.frozen?_alloc_mark (w.alloc A) C 5 10 11 j
  simp only [World.size_alloc] at this
  rw [this]; simp; omega
/-- The bytes of the text that a date is laid over. -/
def tpl : List Value := [.int .u8 48, .int .u8 48, .int .u8 48, .int .u8 48, .int .u8 45, .int .u8 48, .int .u8 48, .int .u8 45, .int .u8 48, .int .u8 48]

/-- The text under way: ten bytes in a block of the call's own, the date's three numbers in the block ahead of it. -/
structure Txt (w1 W : World) (l : List Value) (y m d : Int) : Prop where
  cell : ∀ j, j < 10 → W.cell? ⟨w1.heap.size + 1, j, none⟩ = l[j]?
  free : ∀ j, j < 10 → W.frozen? ⟨w1.heap.size + 1, j, none⟩ = false
  s0 : W.cell? ⟨w1.heap.size, 0, none⟩ = some (.int .i64 y)
  s1 : W.cell? ⟨w1.heap.size, 1, none⟩ = some (.int .i64 m)
  s2 : W.cell? ⟨w1.heap.size, 2, none⟩ = some (.int .i64 d)
  len : l.length = 10
  below : Below w1.heap.size w1 W
theorem Txt.drew {w1 W : World} {l : List Value} {y m d : Int} (h : Txt w1 W l y m d) : Txt w1 W.drew l y m d :=
  ⟨h.cell, h.free, h.s0, h.s1, h.s2, h.len, h.below.drew⟩
theorem Txt.put {w1 W : World} {l : List Value} {y m d : Int} (h : Txt w1 W l y m d) (i : Nat) (hi : i < 10) (v : Value) : Txt w1 (W.setCell ⟨w1.heap.size + 1, i, none⟩ v) (l.set i v) y m d := by
  have hsome : ∃ u, W.cell? ⟨w1.heap.size + 1, i, none⟩ = some u := by
    rw [h.cell i hi]; exact ⟨_, List.getElem?_eq_getElem (by rw [h.len]; exact hi)⟩
  have far : ∀ o, (W.setCell ⟨w1.heap.size + 1, i, none⟩ v).cell? ⟨w1.heap.size, o, none⟩ = W.cell? ⟨w1.heap.size, o, none⟩ := fun o =>
    World.cell?_setCell_other W _ _ v (fun e => by injection e with e1; omega)
  refine ⟨fun j hj => ?_, fun j hj => ?_, (far 0).trans h.s0, (far 1).trans h.s1, (far 2).trans h.s2, by simp [h.len], h.below.setCell (by simp) v⟩
  · by_cases e : j = i
    · subst e
      obtain ⟨u, hu⟩ := hsome
      rw [World.cell?_setCell_same W _ v hu, List.getElem?_set_self (by rw [h.len]; exact hj)]
    · rw [World.cell?_setCell_other W _ _ v (fun e' => e (by injection e' with _ e2; omega)), List.getElem?_set_ne (fun e' => e e'.symm)]
      exact h.cell j hj
  · rw [World.frozen?_setCell]; exact h.free j hj

theorem date_list (y m d : Nat) : Let.date y m d = [UInt8.ofNat (48 + y / 10 / 10 / 10 % 10), UInt8.ofNat (48 + y / 10 / 10 % 10), UInt8.ofNat (48 + y / 10 % 10), UInt8.ofNat (48 + y % 10), 45, UInt8.ofNat (48 + m / 10 % 10), UInt8.ofNat (48 + m % 10), 45, UInt8.ofNat (48 + d / 10 % 10), UInt8.ofNat (48 + d % 10)] := rfl
theorem u8_dig (n : Nat) : ((UInt8.ofNat (48 + n % 10)).toNat : Int) = 48 + (n : Int) % 10 := by
  have : (UInt8.ofNat (48 + n % 10)).toNat = 48 + n % 10 := by simp; omega
  rw [this]; omega
/-- The cells of a date's text. -/
def dcells (y m d : Int) : List Value := [.int .u8 (48 + y / 10 / 10 / 10 % 10), .int .u8 (48 + y / 10 / 10 % 10), .int .u8 (48 + y / 10 % 10), .int .u8 (48 + y % 10), .int .u8 45, .int .u8 (48 + m / 10 % 10), .int .u8 (48 + m % 10), .int .u8 45, .int .u8 (48 + d / 10 % 10), .int .u8 (48 + d % 10)]
theorem dcells_eq (y m d : Nat) : (Let.date y m d).map (fun b => Value.int .u8 (b.toNat : Int)) = dcells y m d := by
  rw [date_list]
  simp only [List.map_cons, List.map_nil, u8_dig, dcells]
  simp
theorem conv_date {w1 W : World} {y m d : Int} (hy : 0 ≤ y) (hm : 0 ≤ m) (hd : 0 ≤ d) (ht : Txt w1 W (dcells y m d) y m d) :
    (convert 50 9 (.slice (some ⟨w1.heap.size + 1, 0, none⟩) 10 10)).run Tryd.prog W = .ok (.string (dateS y m d)) W := by
  obtain ⟨y, rfl⟩ := Int.eq_ofNat_of_zero_le hy
  obtain ⟨m, rfl⟩ := Int.eq_ofNat_of_zero_le hm
  obtain ⟨d, rfl⟩ := Int.eq_ofNat_of_zero_le hd
  have h := run_convert_bytes_back (P := Tryd.prog) W 50 9 5 ⟨w1.heap.size + 1, 0, none⟩ 10 (Let.date y m d) Tryd.underlying50 Tryd.underlying5 Tryd.underlying9 (fun j hj => by
    have hj' : j < 10 := by rw [date_list] at hj; simpa using hj
    have hadd : (⟨w1.heap.size + 1, 0, none⟩ : Addr).add j = ⟨w1.heap.size + 1, j, none⟩ := by unfold Addr.add; split <;> simp_all
    rw [hadd, ht.cell j hj', ← dcells_eq, List.getElem?_map, List.getElem?_eq_getElem hj]; rfl)
  exact h

set_option maxHeartbeats 4000000 in
set_option maxRecDepth 100000 in
theorem fdate_in (n : Int) (w : World) (T : Tab w) (hw : 0 < w.heap.size) (h1 : 1 ≤ n) (h2 : n ≤ 3652059) :
    Calls Tryd.prog 8 #[.int .i64 n] w fun e w' => ∃ y m d : Int, e = .returned (.tuple #[.string (dateS y m d), .bool true]) ∧ Cal.Valid y m d ∧ Cal.num y m d = n ∧ Below w.heap.size w w' := by
  have C := civil_in n w T hw h1 h2
  have kc := fun (w : World) (A : Obj) (C : Array Value) (n c : Nat) => conv_second w A C n c
  go_enter Tryd.func8, Tryd.ntmps8
  go_upto_region 4 with (go_at_call 23; refine C.mono ?_; rintro e w1 ⟨y, m, d, rfl, hv, hn, hb⟩; have HN := Lib.hid hn; clear hn; have HV := Lib.hid hv; clear hv)
  have hy0 : 0 ≤ y := by have := HV.out; unfold Cal.Valid at this; omega
  have hy1 : y < 10000 := by have := HV.out; unfold Cal.Valid at this; omega
  have hm0 : 0 ≤ m := by have := HV.out; unfold Cal.Valid at this; omega
  have hm1 : m < 100 := by have := HV.out; unfold Cal.Valid at this; omega
  have hd0 : 0 ≤ d := by have := HV.out; unfold Cal.Valid at this; omega
  have hd1 : d < 100 := by have := HV.out; have := Cal.ml_range y m; unfold Cal.Valid at *; omega
  clear T C
  go_cut [6] (fun s6 W => s6 = .slice (some ⟨w1.heap.size + 1, 0, none⟩) 10 10 ∧ Txt w1 W tpl y m d)
  case first =>
    go_wp2_with fail
    go_meet
    refine ⟨rfl, ⟨fun j hj => by rw [cell_mark]; simp [tpl], frozen_mark _ _ _, ?_, ?_, ?_, rfl, ((Below.refl _ _).alloc (Nat.le_refl _) _).alloc (by simp) _⟩⟩
    all_goals
      rw [World.cell?_alloc_lt _ _ _ (by simp)]
      simp [World.cell?_alloc_new]
  case rest =>
    obtain ⟨rfl, ht⟩ := hcut
    go_upto_region 5 with fail
    go_cut [] (fun W => Txt w1 W ((((tpl.set 3 (.int .u8 (48 + y % 10))).set 2 (.int .u8 (48 + y / 10 % 10))).set 1 (.int .u8 (48 + y / 10 / 10 % 10))).set 0 (.int .u8 (48 + y / 10 / 10 / 10 % 10))) y m d)
    case first =>
      have c0 := ht.cell 0 (by omega); have c1 := ht.cell 1 (by omega); have c2 := ht.cell 2 (by omega); have c3 := ht.cell 3 (by omega)
      have f0 := ht.free 0 (by omega); have f1 := ht.free 1 (by omega); have f2 := ht.free 2 (by omega); have f3 := ht.free 3 (by omega)
      simp only [tpl, List.getElem?_cons_zero, List.getElem?_cons_succ] at c0 c1 c2 c3
      have s0 := ht.s0
      refine still_tail 4 (by kernel_rfl) (by kernel_rfl) ?_
      simp only [List.take_succ_cons, List.take_zero, List.drop_succ_cons, List.drop_zero]
      repeat still_step
      refine wpStill_nil ?_
      go_wp2_with fail
      refine (put4 _ _ _ y _ _ _ _ _ hy0 hy1 (by exact c0) (by exact c1) (by exact c2) (by exact c3) (by exact f0) (by exact f1) (by exact f2) (by exact f3)).mono ?_
      rintro e w' ⟨rfl, rfl⟩
      go_wp2_with fail
      go_meet
      exact ((((ht.put 3 (by omega) _).put 2 (by omega) _).put 1 (by omega) _).put 0 (by omega) _).drew
    case rest =>
      generalize hl1 : (((tpl.set 3 (.int .u8 (48 + y % 10))).set 2 (.int .u8 (48 + y / 10 % 10))).set 1 (.int .u8 (48 + y / 10 / 10 % 10))).set 0 (.int .u8 (48 + y / 10 / 10 / 10 % 10)) = l1 at hcut
      have ht1 := hcut
      clear hcut ht
      have c5 := ht1.cell 5 (by omega); have c6 := ht1.cell 6 (by omega); have f5 := ht1.free 5 (by omega); have f6 := ht1.free 6 (by omega)
      have s1 := ht1.s1
      rw [← hl1] at c5 c6
      simp only [tpl, List.set_cons_zero, List.set_cons_succ, List.getElem?_cons_zero, List.getElem?_cons_succ] at c5 c6
      have HL1 := Lib.hid hl1
      clear hl1
      go_upto_region 6 with fail
      go_cut [] (fun W => Txt w1 W ((l1.set 6 (.int .u8 (48 + m % 10))).set 5 (.int .u8 (48 + m / 10 % 10))) y m d)
      case first =>
        refine still_tail 4 (by kernel_rfl) (by kernel_rfl) ?_
        simp only [List.take_succ_cons, List.take_zero, List.drop_succ_cons, List.drop_zero]
        repeat still_step
        refine wpStill_nil ?_
        go_wp2_with fail
        refine (put2 _ _ _ m _ _ _ hm0 hm1 (by exact c5) (by exact c6) (by exact f5) (by exact f6)).mono ?_
        rintro e w' ⟨rfl, rfl⟩
        go_wp2_with fail
        go_meet
        exact ((ht1.put 6 (by omega) _).put 5 (by omega) _).drew
      case rest =>
        have ht2 := hcut
        clear hcut ht1 c5 c6 f5 f6 s1
        generalize hl2 : (l1.set 6 (.int .u8 (48 + m % 10))).set 5 (.int .u8 (48 + m / 10 % 10)) = l2 at ht2
        have c8 := ht2.cell 8 (by omega); have c9 := ht2.cell 9 (by omega); have f8 := ht2.free 8 (by omega); have f9 := ht2.free 9 (by omega)
        have s2 := ht2.s2
        rw [← hl2, ← HL1.out] at c8 c9
        simp only [tpl, List.set_cons_zero, List.set_cons_succ, List.getElem?_cons_zero, List.getElem?_cons_succ] at c8 c9
        have HL2 := Lib.hid hl2
        clear hl2
        go_upto_region 7 with fail
        go_cut [] (fun W => Txt w1 W ((l2.set 9 (.int .u8 (48 + d % 10))).set 8 (.int .u8 (48 + d / 10 % 10))) y m d)
        case first =>
          refine still_tail 4 (by kernel_rfl) (by kernel_rfl) ?_
          simp only [List.take_succ_cons, List.take_zero, List.drop_succ_cons, List.drop_zero]
          repeat still_step
          refine wpStill_nil ?_
          go_wp2_with fail
          refine (put2 _ _ _ d _ _ _ hd0 hd1 (by exact c8) (by exact c9) (by exact f8) (by exact f9)).mono ?_
          rintro e w' ⟨rfl, rfl⟩
          go_wp2_with fail
          go_meet
          exact ((ht2.put 9 (by omega) _).put 8 (by omega) _).drew
        case rest =>
          have ht3 := hcut
          clear hcut ht2 c8 c9 f8 f9 s2
          rw [← HL2.out, ← HL1.out] at ht3
          have hconv := conv_date hy0 hm0 hd0 ht3
          go_wp2_with fail
          go_ret2
          exact ⟨y, m, d, rfl, HV.out, HN.out, hb.trans (ht3.below.mono hb.size)⟩
end Go.Proofs.YtojjemokejmcjaaDoor.RL
