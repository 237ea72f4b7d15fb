/- The law's walk. -/
import Derived.Test.YtojjemokejmcjaaDoorV
import Derived.Laws.StructEq
namespace Go.Proofs.YtojjemokejmcjaaDoor.RL
open Go.RowKit Go.Sort Arr

theorem eq23 (a b c d e : Int) (W : World) :
    (binOp .eql 23 (.agg #[.int .i64 a, .int .i64 b, .int .i64 c, .int .i64 d, .int .i64 e, .bool false]) (.agg #[.int .i64 a, .int .i64 b, .int .i64 c, .int .i64 d, .int .i64 e, .bool false])).run Tryd.prog W = .ok (.bool true) W := by
  rw [run_eql_struct, run_equalIn_struct (P := Tryd.prog) W _ 23 _ _ (by kernel_rfl) (by kernel_rfl)]
  simp [go_sem]

set_option maxRecDepth 100000 in
set_option maxHeartbeats 8000000 in
theorem law_any (id loan kind day amt : Int) (ak : Bool) (R : List UInt8) (hR : R.length ≤ 2000000) (w : World) (E : Env w)
    (hid : id ≤ 9223372036854775807) (hloan : loan ≤ 9223372036854775807) (hamt : amt ≤ 9223372036854775807) :
    Calls Tryd.prog 3 #[.agg #[.int .i64 id, .int .i64 loan, .int .i64 kind, .int .i64 day, .int .i64 amt, .bool ak], .string (S R)] w fun e w' => e = .returned (.bool true) ∧ Below w.heap.size w w' := by
  have b0 : Blk (w.alloc (.cells #[.int .i64 id, .int .i64 loan, .int .i64 kind, .int .i64 day, .int .i64 amt, .bool ak] 23)) w.heap.size 23 #[.int .i64 id, .int .i64 loan, .int .i64 kind, .int .i64 day, .int .i64 amt, .bool ak] := Blk.new w 23 _
  have hE : ∀ o, Env (w.alloc o) := fun o => E.below ((Below.refl _ _).alloc (Nat.le_refl _) _)
  go_enter Tryd.func3, Tryd.ntmps3
  go_wp2_with fail
  refine (letter_any id loan kind day amt ak _ (hE _) hid hloan hamt).mono ?_
  rintro e w1 ⟨s1, t1, rfl, hl1, hb1⟩
  have HL1 := Lib.hid hl1
  have HB1 : Hid (Below w.heap.size w w1) := ((Below.refl _ _).alloc (Nat.le_refl _) _).trans (hb1.mono (by simp))
  have b1 := b0.below hb1 b0.lt
  have E1 := E.below HB1.out
  clear b0 hb1 hl1 hE
  have y0 : w1.cell? ⟨w.heap.size, 0, none⟩ = some (.int .i64 id) := by simpa using b1.cell 0
  have y1 : w1.cell? ⟨w.heap.size, 1, none⟩ = some (.int .i64 loan) := by simpa using b1.cell 1
  have y2 : w1.cell? ⟨w.heap.size, 2, none⟩ = some (.int .i64 kind) := by simpa using b1.cell 2
  have y3 : w1.cell? ⟨w.heap.size, 3, none⟩ = some (.int .i64 day) := by simpa using b1.cell 3
  have y4 : w1.cell? ⟨w.heap.size, 4, none⟩ = some (.int .i64 amt) := by simpa using b1.cell 4
  have y5 : w1.cell? ⟨w.heap.size, 5, none⟩ = some (.bool ak) := by simpa using b1.cell 5
  go_wp2_with fail
  refine (letterR_any id loan kind day amt ak _ E1 hid hloan hamt).mono ?_
  rintro e w2 ⟨s2, t2, rfl, hl2, hb2⟩
  obtain ⟨rfl, rfl⟩ := letIs_one HL1.out hl2
  have HB2 : Hid (Below w.heap.size w w2) := HB1.out.trans (hb2.mono HB1.out.size)
  have E2 := E.below HB2.out
  clear HL1 hl2 y0 y1 y2 y3 y4 y5 b1 hb2 HB1 E1
  go_wp2_with fail
  refine (rlet_any R hR _ E2).mono ?_
  rintro e w3 ⟨id3, loan3, kind3, day3, amt3, r3, rfl, hr3, hrng3, hb3⟩
  have HR3 := Lib.hid hr3
  have HG3 := Lib.hid hrng3
  have HB3 : Hid (Below w.heap.size w w3) := HB2.out.trans (hb3.mono HB2.out.size)
  clear hr3 hrng3 hb3 HB2 E2
  go_upto_region 6 with fail
  have b3 : Blk (w3.alloc (.cells #[.int .i64 id3, .int .i64 loan3, .int .i64 kind3, .int .i64 day3, .int .i64 amt3, .bool false] 23)) w3.heap.size 23 #[.int .i64 id3, .int .i64 loan3, .int .i64 kind3, .int .i64 day3, .int .i64 amt3, .bool false] := Blk.new w3 23 _
  have HB4 : Hid (Below w.heap.size w (w3.alloc (.cells #[.int .i64 id3, .int .i64 loan3, .int .i64 kind3, .int .i64 day3, .int .i64 amt3, .bool false] 23))) := HB3.out.alloc HB3.out.size _
  have E4 := E.below HB4.out
  go_wp2_with fail
  refine (rletR_any R hR _ E4).mono ?_
  rintro e w5 ⟨id5, loan5, kind5, day5, amt5, r5, rfl, hr5, hrng5, hb5⟩
  obtain ⟨rfl, rfl, rfl, rfl, rfl, rfl⟩ := rlIs_one HR3.out hr5 HG3.out hrng5
  have b5 := b3.below hb5 b3.lt
  have HB5 : Hid (Below w.heap.size w w5) := HB4.out.trans (hb5.mono HB4.out.size)
  clear hr5 hrng5 HR3 HG3 b3 HB3 HB4 hb5 E4
  generalize w3.heap.size = p3 at *
  go_upto_region 7 with fail
  have b6 : Blk (w5.alloc (.cells #[.int .i64 id3, .int .i64 loan3, .int .i64 kind3, .int .i64 day3, .int .i64 amt3, .bool false] 23)) w5.heap.size 23 #[.int .i64 id3, .int .i64 loan3, .int .i64 kind3, .int .i64 day3, .int .i64 amt3, .bool false] := Blk.new w5 23 _
  have b7 : Blk (w5.alloc (.cells #[.int .i64 id3, .int .i64 loan3, .int .i64 kind3, .int .i64 day3, .int .i64 amt3, .bool false] 23)) p3 23 #[.int .i64 id3, .int .i64 loan3, .int .i64 kind3, .int .i64 day3, .int .i64 amt3, .bool false] := b5.alloc _
  have HB6 : Hid (Below w.heap.size w (w5.alloc (.cells #[.int .i64 id3, .int .i64 loan3, .int .i64 kind3, .int .i64 day3, .int .i64 amt3, .bool false] 23))) := HB5.out.alloc HB5.out.size _
  generalize w5.alloc (.cells #[.int .i64 id3, .int .i64 loan3, .int .i64 kind3, .int .i64 day3, .int .i64 amt3, .bool false] 23) = W6 at *
  generalize w5.heap.size = p5 at *
  have y0 : W6.cell? ⟨p3, 0, none⟩ = some (.int .i64 id3) := by simpa using b7.cell 0
  have y1 : W6.cell? ⟨p3, 1, none⟩ = some (.int .i64 loan3) := by simpa using b7.cell 1
  have y2 : W6.cell? ⟨p3, 2, none⟩ = some (.int .i64 kind3) := by simpa using b7.cell 2
  have y3 : W6.cell? ⟨p3, 3, none⟩ = some (.int .i64 day3) := by simpa using b7.cell 3
  have y4 : W6.cell? ⟨p3, 4, none⟩ = some (.int .i64 amt3) := by simpa using b7.cell 4
  have y5 : W6.cell? ⟨p3, 5, none⟩ = some (.bool false) := by simpa using b7.cell 5
  have z0 : W6.cell? ⟨p5, 0, none⟩ = some (.int .i64 id3) := by simpa using b6.cell 0
  have z1 : W6.cell? ⟨p5, 1, none⟩ = some (.int .i64 loan3) := by simpa using b6.cell 1
  have z2 : W6.cell? ⟨p5, 2, none⟩ = some (.int .i64 kind3) := by simpa using b6.cell 2
  have z3 : W6.cell? ⟨p5, 3, none⟩ = some (.int .i64 day3) := by simpa using b6.cell 3
  have z4 : W6.cell? ⟨p5, 4, none⟩ = some (.int .i64 amt3) := by simpa using b6.cell 4
  have z5 : W6.cell? ⟨p5, 5, none⟩ = some (.bool false) := by simpa using b6.cell 5
  have he := eq23 id3 loan3 kind3 day3 amt3 W6
  have hg : ∀ (op : BinOp) (x y : Operand), (eqGuard op 23 x y (.agg #[.int .i64 id3, .int .i64 loan3, .int .i64 kind3, .int .i64 day3, .int .i64 amt3, .bool false]) (.agg #[.int .i64 id3, .int .i64 loan3, .int .i64 kind3, .int .i64 day3, .int .i64 amt3, .bool false])).run Tryd.prog W6 = .ok () W6 := fun op x y => run_eqGuard_agg W6 op 23 x y _ _ (by kernel_rfl)
  go_wp2_with fail
  go_ret
  exact ⟨rfl, HB6.out⟩
end Go.Proofs.YtojjemokejmcjaaDoor.RL
