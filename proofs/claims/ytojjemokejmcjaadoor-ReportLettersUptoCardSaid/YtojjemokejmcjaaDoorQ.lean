/- report.Letter of a notice that may be. -/
import Derived.Test.YtojjemokejmcjaaDoorO
import Derived.Deep.RegionHeld3
namespace Go.Proofs.YtojjemokejmcjaaDoor.RL
open Go.RowKit Go.Sort Arr

/-- A later world: what lay in W0 lies there still. -/
structure From (W0 W : World) : Prop where
  env : Env W
  below : Below W0.heap.size W0 W
theorem From.step {W0 W W' : World} (h : From W0 W) (hb : Below W.heap.size W W') : From W0 W' := ⟨h.env.below hb, h.below.trans (hb.mono h.below.size)⟩
theorem From.step' {W0 W W' : World} (hb : Below W.heap.size W W') (h : From W0 W) : From W0 W' := h.step hb
theorem From.cell {W0 W : World} (h : From W0 W) {b o : Nat} {v : Value} (hb : b < W0.heap.size) (hc : W0.cell? ⟨b, o, none⟩ = some v) : W.cell? ⟨b, o, none⟩ = some v := by
  rw [h.below.cell (p := ⟨b, o, none⟩) hb]; exact hc
theorem From.drew0 {W0 : World} (E : Env W0) : From W0 W0.drew := ⟨E.below ((Below.refl _ _).drew), (Below.refl _ _).drew⟩

set_option maxRecDepth 100000 in
set_option maxHeartbeats 8000000 in
theorem letter_ok (id loan kind day amt : Int) (ak : Bool) (w : World) (E : Env w) (h : Okay id loan kind day amt)
    (hid : id ≤ 9223372036854775807) (hloan : loan ≤ 9223372036854775807) (hamt : amt ≤ 9223372036854775807) :
    Calls Tryd.prog 4 #[.agg #[.int .i64 id, .int .i64 loan, .int .i64 kind, .int .i64 day, .int .i64 amt, .bool ak]] w (LePost id loan kind day amt w) := by
  have hE : ∀ o, Env (w.alloc o) := fun o => E.below ((Below.refl _ _).alloc (Nat.le_refl _) _)
  have HO := Lib.hid h
  obtain ⟨k1, k2, k3, k4, k5, k6, k7⟩ := h
  go_enter Tryd.func4, Tryd.ntmps4
  go_upto_region 5 with (first
    | (go_at_call 8; refine (fdate_s day _ (hE _) k5 k6).mono ?_; rintro e w1 ⟨y, m, d, dt, rfl, hs, hsz, hb⟩; obtain ⟨hc, hf⟩ := bcell hb)
    | (go_at_call 9; refine (sent_any kind k3 k4 _).mono ?_; rintro e w2 ⟨rfl, hb2⟩))
  obtain ⟨p1, p2, p3⟩ := parts_len kind k3 k4
  have z1 : (S (Let.fst kind)).size ≤ 30 := by rw [S_size]; exact p1
  have z2 : (S (Let.mid kind)).size ≤ 40 := by rw [S_size]; exact p2
  have z3 : (S (Let.lst kind)).size ≤ 20 := by rw [S_size]; exact p3
  clear p1 p2 p3
  have hb2' : Below w.heap.size w w2 := (((Below.refl _ _).alloc (Nat.le_refl _) _).trans (hb.mono (by simp))).trans (hb2.mono (by have := hb.size; simp at this; omega))
  have hlt1 : w.heap.size < w1.heap.size := by have := hb.size; simp at this; omega
  have hlt2 : w.heap.size < w2.heap.size := Nat.lt_of_lt_of_le hlt1 hb2.size
  have hcell : ∀ (o : Nat) (v : Value), (w.alloc (.cells #[.int .i64 id, .int .i64 loan, .int .i64 kind, .int .i64 day, .int .i64 amt, .bool ak] 23)).cell? ⟨w.heap.size, o, none⟩ = some v →
      ∀ O, (w2.alloc O).cell? ⟨w.heap.size, o, none⟩ = some v := fun o v hv O => by
    rw [World.cell?_alloc_lt _ _ _ hlt2, hb2.cell (p := ⟨w.heap.size, o, none⟩) hlt1, hc _ _ (by simp)]; exact hv
  have c0 := hcell 0 (.int .i64 id) (by simp [World.cell?_alloc_new]) (.cells #[.string (S (Let.fst kind)), .string (S (Let.mid kind)), .string (S (Let.lst kind)), .bool (Let.af kind)] 31)
  have c1 := hcell 1 (.int .i64 loan) (by simp [World.cell?_alloc_new]) (.cells #[.string (S (Let.fst kind)), .string (S (Let.mid kind)), .string (S (Let.lst kind)), .bool (Let.af kind)] 31)
  have c4 := hcell 4 (.int .i64 amt) (by simp [World.cell?_alloc_new]) (.cells #[.string (S (Let.fst kind)), .string (S (Let.mid kind)), .string (S (Let.lst kind)), .bool (Let.af kind)] 31)
  have E0 : Env (w2.alloc (.cells #[.string (S (Let.fst kind)), .string (S (Let.mid kind)), .string (S (Let.lst kind)), .bool (Let.af kind)] 31)) := (E.below hb2').below ((Below.refl _ _).alloc (Nat.le_refl _) _)
  have B0 : Below w.heap.size w (w2.alloc (.cells #[.string (S (Let.fst kind)), .string (S (Let.mid kind)), .string (S (Let.lst kind)), .bool (Let.af kind)] 31)) := hb2'.alloc hb2'.size _
  have d0 : (w2.alloc (.cells #[.string (S (Let.fst kind)), .string (S (Let.mid kind)), .string (S (Let.lst kind)), .bool (Let.af kind)] 31)).cell? ⟨w2.heap.size, 0, none⟩ = some (.string (S (Let.fst kind))) := by simp [World.cell?_alloc_new]
  have d1 : (w2.alloc (.cells #[.string (S (Let.fst kind)), .string (S (Let.mid kind)), .string (S (Let.lst kind)), .bool (Let.af kind)] 31)).cell? ⟨w2.heap.size, 1, none⟩ = some (.string (S (Let.mid kind))) := by simp [World.cell?_alloc_new]
  have d2 : (w2.alloc (.cells #[.string (S (Let.fst kind)), .string (S (Let.mid kind)), .string (S (Let.lst kind)), .bool (Let.af kind)] 31)).cell? ⟨w2.heap.size, 2, none⟩ = some (.string (S (Let.lst kind))) := by simp [World.cell?_alloc_new]
  have d3 : (w2.alloc (.cells #[.string (S (Let.fst kind)), .string (S (Let.mid kind)), .string (S (Let.lst kind)), .bool (Let.af kind)] 31)).cell? ⟨w2.heap.size, 3, none⟩ = some (.bool (Let.af kind)) := by simp [World.cell?_alloc_new]
  have lN : w.heap.size < (w2.alloc (.cells #[.string (S (Let.fst kind)), .string (S (Let.mid kind)), .string (S (Let.lst kind)), .bool (Let.af kind)] 31)).heap.size := by simp; omega
  have lF : w2.heap.size < (w2.alloc (.cells #[.string (S (Let.fst kind)), .string (S (Let.mid kind)), .string (S (Let.lst kind)), .bool (Let.af kind)] 31)).heap.size := by simp
  have HSENT : Hid (∀ a b : List UInt8, sentT kind a b = Let.fst kind ++ (if Let.af kind = true then b ++ (Let.mid kind ++ (a ++ Let.lst kind)) else a ++ (Let.mid kind ++ (b ++ Let.lst kind)))) := fun _ _ => rfl
  clear hcell hb hb2 hb2' hlt1 hlt2 hc hf hE
  generalize w2.alloc (.cells #[.string (S (Let.fst kind)), .string (S (Let.mid kind)), .string (S (Let.lst kind)), .bool (Let.af kind)] 31) = W0 at *
  generalize w2.heap.size = bF at *
  have HBN : Hid (Below w.heap.size w W0) := B0
  clear B0
  generalize hbN : w.heap.size = bN at c0 c1 c4 lN ⊢
  clear hbN
  generalize Let.fst kind = fs at *
  generalize Let.mid kind = ms at *
  generalize Let.lst kind = ls at *
  go_region_held3 (fun W => W.cell? ⟨bN, 1, none⟩ = some (.int .i64 loan) ∧ W.cell? ⟨bN, 4, none⟩ = some (.int .i64 amt) ∧ From W0 W)
    (first | exact ⟨c1, c4, From.drew0 E0⟩ | assumption | (have hF := From.step' (by assumption) (And.right (And.right (by assumption))); exact ⟨hF.cell lN c1, hF.cell lN c4, hF⟩))
    (first
      | (go_at_call 10; refine (itoa_s loan k2 hloan _ (From.env (And.right (And.right (by assumption))))).mono ?_; rintro e w' ⟨s1, rfl, e1, l1, hb1⟩)
      | (go_at_call 11; refine (fmt_s amt k7 hamt _ (From.env (And.right (And.right (by assumption))))).mono ?_; rintro e w' ⟨s2, rfl, e2, l2, hb2⟩))
  cases haf : Let.af kind
  · have HAF := Lib.hid haf
    have hF : From W0 w' := And.right (And.right (by assumption))
    rw [haf] at d3
    have x3 := hF.cell lF d3
    have x0 := hF.cell lF d0
    have x1 := hF.cell lF d1
    have x2 := hF.cell lF d2
    have xi := hF.cell lN c0
    have EF := hF.env
    have HF := Lib.hid hF
    clear haf hF
    go_upto_region 8 with fail
    go_region_held3 (fun W => W.cell? ⟨bN, 0, none⟩ = some (.int .i64 id) ∧ W.cell? ⟨bF, 0, none⟩ = some (.string (S fs)) ∧ W.cell? ⟨bF, 1, none⟩ = some (.string (S ms)) ∧ W.cell? ⟨bF, 2, none⟩ = some (.string (S ls)) ∧ From w' W)
      (first | exact ⟨xi, x0, x1, x2, From.drew0 EF⟩ | assumption | (have hG := From.step' (by assumption) (From.drew0 EF); exact ⟨hG.cell (Nat.lt_of_lt_of_le lN HF.out.below.size) xi, hG.cell (Nat.lt_of_lt_of_le lF HF.out.below.size) x0, hG.cell (Nat.lt_of_lt_of_le lF HF.out.below.size) x1, hG.cell (Nat.lt_of_lt_of_le lF HF.out.below.size) x2, hG⟩))
      (first
        | (go_at_call 10; refine (itoa_s id k1 hid _ (From.drew0 EF).env).mono ?_; rintro e w'' ⟨s3, rfl, e3, l3, hb3⟩; have q1 : ¬ 9223372036854775807 < 7 + s3.size := (by omega); have q2 : ¬ 9223372036854775807 < 7 + s3.size + 4 := (by omega); have q3 : ¬ 9223372036854775807 < 7 + s3.size + 4 + dt.size := (by omega); have q4 : ¬ 9223372036854775807 < 7 + s3.size + 4 + dt.size + 2 := (by omega); have q5 : ¬ 9223372036854775807 < 7 + s3.size + 4 + dt.size + 2 + (S fs).size := (by omega); have q6 : ¬ 9223372036854775807 < 7 + s3.size + 4 + dt.size + 2 + (S fs).size + s1.size := (by omega); have q7 : ¬ 9223372036854775807 < 7 + s3.size + 4 + dt.size + 2 + (S fs).size + s1.size + (S ms).size := (by omega); have q8 : ¬ 9223372036854775807 < 7 + s3.size + 4 + dt.size + 2 + (S fs).size + s1.size + (S ms).size + s2.size := (by omega); have q9 : ¬ 9223372036854775807 < 7 + s3.size + 4 + dt.size + 2 + (S fs).size + s1.size + (S ms).size + s2.size + (S ls).size := (by omega)))
    go_wp2_with fail
    go_ret2
    have hG : From w' _ := And.right (And.right (And.right (And.right (by assumption))))
    refine ⟨_, _, rfl, .inl ⟨y, m, d, hs.out.2.1, hs.out.2.2, HO.out, ?_, rfl⟩, HBN.out.trans ((HF.out.below.trans (hG.below.mono HF.out.below.size)).mono HBN.out.size)⟩
    have r1 : s1 = S (Lib.decDigits loan.toNat) := e1.out
    have r2 : s2 = S (Let.amt amt.toNat) := e2.out
    have r3 : s3 = S (Lib.decDigits id.toNat) := e3.out
    have r4 : dt = S (Let.date y.toNat m.toNat d.toNat) := hs.out.1
    have r5 := HSENT.out (Lib.decDigits loan.toNat) (Let.amt amt.toNat)
    rw [HAF.out] at r5
    unfold Let.letter
    rw [← sentT_eq, r5, r1, r2, r3, r4]
    apply ByteArray.ext
    simp [S, Let.pN, Let.pOf, Let.pCol]
  · have HAF := Lib.hid haf
    have hF : From W0 w' := And.right (And.right (by assumption))
    rw [haf] at d3
    have x3 := hF.cell lF d3
    have x0 := hF.cell lF d0
    have x1 := hF.cell lF d1
    have x2 := hF.cell lF d2
    have xi := hF.cell lN c0
    have EF := hF.env
    have HF := Lib.hid hF
    clear haf hF
    go_upto_region 8 with fail
    go_region_held3 (fun W => W.cell? ⟨bN, 0, none⟩ = some (.int .i64 id) ∧ W.cell? ⟨bF, 0, none⟩ = some (.string (S fs)) ∧ W.cell? ⟨bF, 1, none⟩ = some (.string (S ms)) ∧ W.cell? ⟨bF, 2, none⟩ = some (.string (S ls)) ∧ From w' W)
      (first | exact ⟨xi, x0, x1, x2, From.drew0 EF⟩ | assumption | (have hG := From.step' (by assumption) (From.drew0 EF); exact ⟨hG.cell (Nat.lt_of_lt_of_le lN HF.out.below.size) xi, hG.cell (Nat.lt_of_lt_of_le lF HF.out.below.size) x0, hG.cell (Nat.lt_of_lt_of_le lF HF.out.below.size) x1, hG.cell (Nat.lt_of_lt_of_le lF HF.out.below.size) x2, hG⟩))
      (first
        | (go_at_call 10; refine (itoa_s id k1 hid _ (From.drew0 EF).env).mono ?_; rintro e w'' ⟨s3, rfl, e3, l3, hb3⟩; have q1 : ¬ 9223372036854775807 < 7 + s3.size := (by omega); have q2 : ¬ 9223372036854775807 < 7 + s3.size + 4 := (by omega); have q3 : ¬ 9223372036854775807 < 7 + s3.size + 4 + dt.size := (by omega); have q4 : ¬ 9223372036854775807 < 7 + s3.size + 4 + dt.size + 2 := (by omega); have q5 : ¬ 9223372036854775807 < 7 + s3.size + 4 + dt.size + 2 + (S fs).size := (by omega); have q6 : ¬ 9223372036854775807 < 7 + s3.size + 4 + dt.size + 2 + (S fs).size + s2.size := (by omega); have q7 : ¬ 9223372036854775807 < 7 + s3.size + 4 + dt.size + 2 + (S fs).size + s2.size + (S ms).size := (by omega); have q8 : ¬ 9223372036854775807 < 7 + s3.size + 4 + dt.size + 2 + (S fs).size + s2.size + (S ms).size + s1.size := (by omega); have q9 : ¬ 9223372036854775807 < 7 + s3.size + 4 + dt.size + 2 + (S fs).size + s2.size + (S ms).size + s1.size + (S ls).size := (by omega)))
    go_wp2_with fail
    go_ret2
    have hG : From w' _ := And.right (And.right (And.right (And.right (by assumption))))
    refine ⟨_, _, rfl, .inl ⟨y, m, d, hs.out.2.1, hs.out.2.2, HO.out, ?_, rfl⟩, HBN.out.trans ((HF.out.below.trans (hG.below.mono HF.out.below.size)).mono HBN.out.size)⟩
    have r1 : s1 = S (Lib.decDigits loan.toNat) := e1.out
    have r2 : s2 = S (Let.amt amt.toNat) := e2.out
    have r3 : s3 = S (Lib.decDigits id.toNat) := e3.out
    have r4 : dt = S (Let.date y.toNat m.toNat d.toNat) := hs.out.1
    have r5 := HSENT.out (Lib.decDigits loan.toNat) (Let.amt amt.toNat)
    rw [HAF.out] at r5
    unfold Let.letter
    rw [← sentT_eq, r5, r1, r2, r3, r4]
    apply ByteArray.ext
    simp [S, Let.pN, Let.pOf, Let.pCol]

end Go.Proofs.YtojjemokejmcjaaDoor.RL
