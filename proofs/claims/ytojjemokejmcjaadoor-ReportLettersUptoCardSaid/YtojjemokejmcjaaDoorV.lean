/- The reference's reader of letters. -/
import Derived.Test.YtojjemokejmcjaaDoorT
import Derived.Test.YtojjemokejmcjaaDoorU
import Derived.Test.YtojjemokejmcjaaDoorH
import Derived.Test.YtojjemokejmcjaaDoorD
namespace Go.Proofs.YtojjemokejmcjaaDoor.RL
open Go.RowKit Go.Sort Arr

def TrPost (R : List UInt8) (id loan kind day amt : Int) (w : World) (e : Ending) (w' : World) : Prop :=
  ∃ b : Bool, e = .returned (.bool b) ∧ Hid (b = true ↔ LetIs id loan kind day amt (S R) true) ∧ Below w.heap.size w w'

set_option maxRecDepth 100000 in
set_option maxHeartbeats 4000000 in
theorem tried_any (R : List UInt8) (id loan kind day amt : Int) (w : World) (E : Env w)
    (hid : id ≤ 9223372036854775807) (hloan : loan ≤ 9223372036854775807) (hamt : amt ≤ 9223372036854775807) :
    Calls Tryd.prog 22 #[.agg #[.int .i64 id, .int .i64 loan, .int .i64 kind, .int .i64 day, .int .i64 amt, .bool false], .string (S R)] w (TrPost R id loan kind day amt w) := by
  have hE : ∀ o, Env (w.alloc o) := fun o => E.below ((Below.refl _ _).alloc (Nat.le_refl _) _)
  go_enter Tryd.func22, Tryd.ntmps22
  go_wp2_with fail
  refine (letterR_any id loan kind day amt false _ (hE _) hid hloan hamt).mono ?_
  rintro e w' ⟨s, b, rfl, hlet, hb⟩
  have HL := Lib.hid hlet
  have HB : Hid (Below w.heap.size w w') := ((Below.refl _ _).alloc (Nat.le_refl _) _).trans (hb.mono (by simp))
  clear hlet hb hE
  cases b
  · go_wp2_with fail
    go_ret
    refine ⟨false, rfl, ⟨(fun h => by cases h), fun h => ?_⟩, HB.out⟩
    exact (letIs_one HL.out h).2
  · by_cases hs : s = S R
    · have hq : (s.toList == (S R).toList) = true := by rw [hs]; simp
      go_wp2_with fail
      go_ret
      refine ⟨true, rfl, ⟨fun _ => by rw [← hs]; exact HL.out, fun _ => rfl⟩, HB.out⟩
    · have hq : (s.toList == (S R).toList) = false := by rw [beq_eq_false_iff_ne]; exact fun e => hs (toList_inj e)
      go_wp2_with fail
      go_ret
      refine ⟨false, rfl, ⟨(fun h => by cases h), fun h => absurd (letIs_one HL.out h).1 hs⟩, HB.out⟩

theorem Gvs.at {G L} (h : Gvs G L) : ∀ i, i < G.length → Gv (G.getD i []) (L.getD i 0) := by
  induction h with
  | nil => intro i hi; simp at hi
  | @snoc G g L v h hv ih =>
    intro i hi
    have hl := h.len
    by_cases hlt : i < G.length
    · have e1 : (G ++ [g]).getD i [] = G.getD i [] := by simp [List.getD, List.getElem?_append_left hlt]
      have e2 : (L ++ [v]).getD i 0 = L.getD i 0 := by simp [List.getD, List.getElem?_append_left (show i < L.length by omega)]
      rw [e1, e2]; exact ih i hlt
    · have e : i = G.length := by simp at hi; omega
      have e1 : (G ++ [g]).getD i [] = g := by simp [List.getD, e]
      have e2 : (L ++ [v]).getD i 0 = v := by simp [List.getD, e, hl]
      rw [e1, e2]; exact hv
theorem Gvs.rng {G L} (h : Gvs G L) (i : Nat) (hi : i < L.length) : -9223372036854775808 ≤ L.getD i 0 ∧ L.getD i 0 ≤ 9223372036854775807 := by
  have := h.at i (by rw [h.len]; exact hi); exact ⟨this.1, this.2.1⟩

theorem dec_len19 (u : Nat) (h : u ≤ 9223372036854775807) : (Lib.decDigits u).length ≤ 19 := by
  exact dec_len_le 18 u (by omega)
theorem Gv.dec {u : Nat} {v : Int} (h : Gv (Lib.decDigits u) v) (hu : u ≤ 9223372036854775807) : v = u := by
  have := h.2.2 (dec_len19 u hu) (by rw [Let.val_dec]; exact hu)
  rw [Let.val_dec] at this; exact this
theorem Gv.pad {w u : Nat} {v : Int} (h : Gv (Let.pad w u) v) (hw : w ≤ 4) (hu : u < 10 ^ w) (hu2 : u < 10000) : v = u := by
  have := h.2.2 (by rw [Let.pad_length]; omega) (by rw [Let.val_pad w u hu]; omega)
  rw [Let.val_pad w u hu] at this; exact this

def A1 (L : List Int) : Int := wrap64 (wrap64 (L.getD 5 0 * 100) + L.getD 6 0)
def A2 (L : List Int) : Int := wrap64 (wrap64 (L.getD 4 0 * 100) + L.getD 5 0)
/-- A letter's runs tell its notice. -/
theorem let_runs {R : List UInt8} {L : List Int} (hg : Gvs (Let.grp [] R) L) {id loan kind day amt : Int} (h : LetIs id loan kind day amt (S R) true)
    (hid : id ≤ 9223372036854775807) (hloan : loan ≤ 9223372036854775807) (hamt : amt ≤ 9223372036854775807) :
    L.length = 7 ∧ Cal.Valid (L.getD 1 0) (L.getD 2 0) (L.getD 3 0) ∧ Cal.num (L.getD 1 0) (L.getD 2 0) (L.getD 3 0) = day ∧ id = L.getD 0 0 ∧
      ((loan = L.getD 4 0 ∧ amt = A1 L) ∨ (loan = L.getD 6 0 ∧ amt = A2 L)) ∧ 1 ≤ kind ∧ kind ≤ 9 := by
  rcases h with ⟨y, m, d, hv, hn, ho, hs, _⟩ | ⟨_, _, hb⟩
  · have hR := S_inj hs
    have hvv := hv
    obtain ⟨a1, a2, a3, a4, a5, a6⟩ := hvv
    have a7 := Cal.ml_range y m a3 a4
    obtain ⟨o1, o2, o3, o4, o5, o6, o7⟩ := ho
    rw [hR, Let.grp_letter kind o3 o4] at hg
    have hl := hg.len
    have hc := hg.at
    have l7 : L.length = 7 := by
      rw [← hl]; unfold Let.sruns; split <;> rfl
    have g0 := (hc 0 (by rw [hl]; omega)).dec (u := id.toNat) (by omega)
    have g1 := Gv.pad (w := 4) (u := y.toNat) (hc 1 (by rw [hl]; omega)) (by omega) (by omega) (by omega)
    have g2 := Gv.pad (w := 2) (u := m.toNat) (hc 2 (by rw [hl]; omega)) (by omega) (by omega) (by omega)
    have g3 := Gv.pad (w := 2) (u := d.toNat) (hc 3 (by rw [hl]; omega)) (by omega) (by omega) (by omega)
    have e1 : L.getD 1 0 = y := by omega
    have e2 : L.getD 2 0 = m := by omega
    have e3 : L.getD 3 0 = d := by omega
    refine ⟨l7, by rw [e1, e2, e3]; exact hv, by rw [e1, e2, e3]; exact hn, by omega, ?_, o3, o4⟩
    have h4 := hc 4 (by rw [hl]; omega)
    have h5 := hc 5 (by rw [hl]; omega)
    have h6 := hc 6 (by rw [hl]; omega)
    unfold Let.sruns at h4 h5 h6
    cases haf : Let.af kind
    · rw [haf] at h4 h5 h6
      have g4 := Gv.dec (u := loan.toNat) h4 (by omega)
      have g5 := Gv.dec (u := amt.toNat / 100) h5 (by omega)
      have g6 := Gv.pad (w := 2) (u := amt.toNat % 100) h6 (by omega) (by omega) (by omega)
      left
      refine ⟨by omega, ?_⟩
      unfold A1
      rw [wrap64_id (L.getD 5 0 * 100) (by omega) (by omega), wrap64_id _ (by omega) (by omega)]
      omega
    · rw [haf] at h4 h5 h6
      have g4 := Gv.dec (u := amt.toNat / 100) h4 (by omega)
      have g5 := Gv.pad (w := 2) (u := amt.toNat % 100) h5 (by omega) (by omega) (by omega)
      have g6 := Gv.dec (u := loan.toNat) h6 (by omega)
      right
      refine ⟨by omega, ?_⟩
      unfold A2
      rw [wrap64_id (L.getD 4 0 * 100) (by omega) (by omega), wrap64_id _ (by omega) (by omega)]
      omega
  · cases hb

theorem keep4 {w W : World} {g : Nat} {a b c d : Value} (hg : g < w.heap.size) (q0 : w.cell? ⟨g, 0, none⟩ = some a) (q4 : w.cell? ⟨g, 4, none⟩ = some b) (q5 : w.cell? ⟨g, 5, none⟩ = some c) (q6 : w.cell? ⟨g, 6, none⟩ = some d)
    (hb : Below w.heap.size w W) : W.cell? ⟨g, 0, none⟩ = some a ∧ W.cell? ⟨g, 4, none⟩ = some b ∧ W.cell? ⟨g, 5, none⟩ = some c ∧ W.cell? ⟨g, 6, none⟩ = some d ∧ Below w.heap.size w W :=
  ⟨(hb.cell (p := ⟨g, 0, none⟩) hg).trans q0, (hb.cell (p := ⟨g, 4, none⟩) hg).trans q4, (hb.cell (p := ⟨g, 5, none⟩) hg).trans q5, (hb.cell (p := ⟨g, 6, none⟩) hg).trans q6, hb⟩
/-- The loop's state. -/
structure Rr (R : List UInt8) (w0 : World) (g : Nat) (cur : Array Value) (k : Int) (W : World) : Prop where
  env : Env W
  below : Below w0.heap.size w0 W
  res : Blk W w0.heap.size 23 #[.int .i64 0, .int .i64 0, .int .i64 0, .int .i64 0, .int .i64 0, .bool false]
  row : Blk W g 3 cur
  lo : w0.heap.size + 1 ≤ g
  out : ∀ id loan kind day amt : Int, id ≤ 9223372036854775807 → loan ≤ 9223372036854775807 → amt ≤ 9223372036854775807 → LetIs id loan kind day amt (S R) true → k ≤ kind
theorem numF_rng (y m d : Int) : (numF y m d).1 ≤ 9223372036854775807 ∧ -9223372036854775808 ≤ (numF y m d).1 := by
  unfold numF
  split
  · rename_i h
    have := Cal.num_range ((valid_iff y m d).1 h); simp only; omega
  · simp only; omega

set_option maxRecDepth 100000 in
set_option maxHeartbeats 8000000 in
theorem rletR_any (R : List UInt8) (hR : R.length ≤ 2000000) (w : World) (E : Env w) :
    Calls Tryd.prog 7 #[.string (S R)] w (RlPost R w) := by
  have r0 : Blk (w.alloc (.cells #[.int .i64 0, .int .i64 0, .int .i64 0, .int .i64 0, .int .i64 0, .bool false] 23)) w.heap.size 23 #[.int .i64 0, .int .i64 0, .int .i64 0, .int .i64 0, .int .i64 0, .bool false] := Blk.new w 23 _
  go_enter Tryd.func7, Tryd.ntmps7
  go_wp2_with fail
  refine (runs_any R hR _).mono ?_
  rintro e w1 ⟨v, L, rfl, hown, HG, hL, hb⟩
  have HB1 : Hid (Below w.heap.size w w1) := ((Below.refl _ _).alloc (Nat.le_refl _) _).trans (hb.mono (by simp))
  have E1 := E.below HB1.out
  have r1 := r0.below hb r0.lt
  clear r0
  have HO := Lib.hid hown
  clear hown hb
  by_cases hl7 : L.length = 7
  · obtain ⟨hlen, h | ⟨g, cap, cur, rfl, hg, hblk, hcap, hmx, hcs, htk⟩⟩ := HO.out
    · omega
    · clear HO
      rw [hl7] at htk hcap
      have hN : Blk w1 g 3 cur := hblk
      have hgl : w.heap.size + 1 ≤ g := by simpa using hg
      have hcurN : ∀ i, i < 7 → cur[i]? = some (.int .i64 (L.getD i 0)) := by
        intro i hi
        have h1 : (cur.toList.take (7 * 1))[i]? = (L.map (Value.int .i64))[i]? := by rw [htk]
        rw [List.getElem?_take_of_lt (by omega)] at h1
        rw [Array.getElem?_toList] at h1
        rw [h1]
        simp [List.getD, List.getElem?_eq_getElem (show i < L.length by omega)]
      have HLET : Hid (∀ id loan kind day amt : Int, id ≤ 9223372036854775807 → loan ≤ 9223372036854775807 → amt ≤ 9223372036854775807 → LetIs id loan kind day amt (S R) true →
          Cal.Valid (L.getD 1 0) (L.getD 2 0) (L.getD 3 0) ∧ Cal.num (L.getD 1 0) (L.getD 2 0) (L.getD 3 0) = day ∧ id = L.getD 0 0 ∧
          ((loan = L.getD 4 0 ∧ amt = wrap64 (wrap64 (L.getD 5 0 * 100) + L.getD 6 0)) ∨ (loan = L.getD 6 0 ∧ amt = wrap64 (wrap64 (L.getD 4 0 * 100) + L.getD 5 0))) ∧ 1 ≤ kind ∧ kind ≤ 9) := by
        intro id loan kind day amt h1 h2 h3 h
        exact (let_runs HG.out h h1 h2 h3).2
      have HR0 := HG.out.rng 0 (by omega)
      have HR4 := HG.out.rng 4 (by omega)
      have HR6 := HG.out.rng 6 (by omega)
      have hs : ∀ i, i < 7 → w1.cell? ⟨g, i, none⟩ = some (.int .i64 (L.getD i 0)) := fun i hi => by rw [hN.cell i]; exact hcurN i hi
      have s0 := hcurN 0 (by omega)
      have s1 := hcurN 1 (by omega)
      have s2 := hcurN 2 (by omega)
      have s3 := hcurN 3 (by omega)
      have s4 := hcurN 4 (by omega)
      have s5 := hcurN 5 (by omega)
      have s6 := hcurN 6 (by omega)
      have C21 := fun W => numR_any (L.getD 1 0) (L.getD 2 0) (L.getD 3 0) W
      have HNF : Hid (numF (L.getD 1 0) (L.getD 2 0) (L.getD 3 0) = ((numF (L.getD 1 0) (L.getD 2 0) (L.getD 3 0)).1, (numF (L.getD 1 0) (L.getD 2 0) (L.getD 3 0)).2)) := rfl
      clear hcurN htk hs HG
      rw [hl7]
      have z1 := hN.cell 1
      have z2 := hN.cell 2
      have z3 := hN.cell 3
      rw [s1] at z1
      rw [s2] at z2
      rw [s3] at z3
      generalize (numF (L.getD 1 0) (L.getD 2 0) (L.getD 3 0)).1 = day at *
      generalize (numF (L.getD 1 0) (L.getD 2 0) (L.getD 3 0)).2 = ok at *
      generalize L.getD 0 0 = x0 at *
      generalize L.getD 1 0 = x1 at *
      generalize L.getD 2 0 = x2 at *
      generalize L.getD 3 0 = x3 at *
      generalize L.getD 4 0 = x4 at *
      generalize L.getD 5 0 = x5 at *
      generalize L.getD 6 0 = x6 at *
      clear hl7 hL hlen hblk L
      have f0 := r1.frozen 0
      have f1 := r1.frozen 1
      have f2 := r1.frozen 2
      have f3 := r1.frozen 3
      have f4 := r1.frozen 4
      have f5 := r1.frozen 5
      have c0 : w1.cell? ⟨w.heap.size, 0, none⟩ = some (.int .i64 0) := by simpa using r1.cell 0
      have c1 : w1.cell? ⟨w.heap.size, 1, none⟩ = some (.int .i64 0) := by simpa using r1.cell 1
      have c2 : w1.cell? ⟨w.heap.size, 2, none⟩ = some (.int .i64 0) := by simpa using r1.cell 2
      have c3 : w1.cell? ⟨w.heap.size, 3, none⟩ = some (.int .i64 0) := by simpa using r1.cell 3
      have c4 : w1.cell? ⟨w.heap.size, 4, none⟩ = some (.int .i64 0) := by simpa using r1.cell 4
      have c5 : w1.cell? ⟨w.heap.size, 5, none⟩ = some (.bool false) := by simpa using r1.cell 5
      go_upto_region 4 with fail
      go_region_held3 (fun W => W.cell? ⟨g, 1, none⟩ = some (.int .i64 x1) ∧ W.cell? ⟨g, 2, none⟩ = some (.int .i64 x2) ∧ W.cell? ⟨g, 3, none⟩ = some (.int .i64 x3) ∧ Below w1.heap.size w1 W)
        (first | exact ⟨z1, z2, z3, (Below.refl _ _).drew⟩ | assumption | (have hF := Below.trans (Below.drew (Below.refl w1.heap.size w1)) (by assumption); exact ⟨(hF.cell (p := ⟨g, 1, none⟩) hN.lt).trans z1, (hF.cell (p := ⟨g, 2, none⟩) hN.lt).trans z2, (hF.cell (p := ⟨g, 3, none⟩) hN.lt).trans z3, hF⟩))
        (first | (go_at_call 21; refine (C21 _).mono ?_; rintro e w2 ⟨rfl, hb2⟩))
      have hb2 : Below w1.heap.size w1 w2 := And.right (And.right (And.right (by assumption)))
      have r2 : Blk w2 w.heap.size 23 #[.int .i64 0, .int .i64 0, .int .i64 0, .int .i64 0, .int .i64 0, .bool false] := r1.below hb2 r1.lt
      have n2 : Blk w2 g 3 cur := hN.below hb2 hN.lt
      have HB2 : Hid (Below w.heap.size w w2) := HB1.out.trans (hb2.mono HB1.out.size)
      have E2 := E.below HB2.out
      clear r1 hN hb2 HB1 E1 C21 z1 z2 z3 f0 f1 f2 f3 f4 f5 c0 c1 c2 c3 c4 c5
      cases ok
      · have hno : Hid (∀ id loan kind day amt : Int, id ≤ 9223372036854775807 → loan ≤ 9223372036854775807 → amt ≤ 9223372036854775807 → ¬ LetIs id loan kind day amt (S R) true) := by
          intro id loan kind day amt h1 h2 h3 h
          have hv := (valid_iff x1 x2 x3).2 (HLET.out id loan kind day amt h1 h2 h3 h).1
          have hn := HNF.out
          unfold numF at hn
          rw [if_pos hv] at hn
          simp at hn
        have f0 := r2.frozen 0
        have f1 := r2.frozen 1
        have f2 := r2.frozen 2
        have f3 := r2.frozen 3
        have f4 := r2.frozen 4
        have f5 := r2.frozen 5
        have c0 : w2.cell? ⟨w.heap.size, 0, none⟩ = some (.int .i64 0) := by simpa using r2.cell 0
        have c1 : w2.cell? ⟨w.heap.size, 1, none⟩ = some (.int .i64 0) := by simpa using r2.cell 1
        have c2 : w2.cell? ⟨w.heap.size, 2, none⟩ = some (.int .i64 0) := by simpa using r2.cell 2
        have c3 : w2.cell? ⟨w.heap.size, 3, none⟩ = some (.int .i64 0) := by simpa using r2.cell 3
        have c4 : w2.cell? ⟨w.heap.size, 4, none⟩ = some (.int .i64 0) := by simpa using r2.cell 4
        have c5 : w2.cell? ⟨w.heap.size, 5, none⟩ = some (.bool false) := by simpa using r2.cell 5
        go_wp2_with fail
        have rE : Blk ((((((w2.setCell ⟨w.heap.size, 0, none⟩ (.int .i64 0)).setCell ⟨w.heap.size, 1, none⟩ (.int .i64 0)).setCell ⟨w.heap.size, 2, none⟩ (.int .i64 0)).setCell ⟨w.heap.size, 3, none⟩ (.int .i64 0)).setCell ⟨w.heap.size, 4, none⟩ (.int .i64 0)).setCell ⟨w.heap.size, 5, none⟩ (.bool false)) w.heap.size 23 #[.int .i64 0, .int .i64 0, .int .i64 0, .int .i64 0, .int .i64 0, .bool false] := ((((((r2.set_ 0 _).set_ 1 _).set_ 2 _).set_ 3 _).set_ 4 _).set_ 5 _)
        have HBE : Hid (Below w.heap.size w ((((((w2.setCell ⟨w.heap.size, 0, none⟩ (.int .i64 0)).setCell ⟨w.heap.size, 1, none⟩ (.int .i64 0)).setCell ⟨w.heap.size, 2, none⟩ (.int .i64 0)).setCell ⟨w.heap.size, 3, none⟩ (.int .i64 0)).setCell ⟨w.heap.size, 4, none⟩ (.int .i64 0)).setCell ⟨w.heap.size, 5, none⟩ (.bool false))) := ((((((HB2.out.setCell (Nat.le_refl _) _).setCell (Nat.le_refl _) _).setCell (Nat.le_refl _) _).setCell (Nat.le_refl _) _).setCell (Nat.le_refl _) _).setCell (Nat.le_refl _) _)
        generalize (((((w2.setCell ⟨w.heap.size, 0, none⟩ (.int .i64 0)).setCell ⟨w.heap.size, 1, none⟩ (.int .i64 0)).setCell ⟨w.heap.size, 2, none⟩ (.int .i64 0)).setCell ⟨w.heap.size, 3, none⟩ (.int .i64 0)).setCell ⟨w.heap.size, 4, none⟩ (.int .i64 0)).setCell ⟨w.heap.size, 5, none⟩ (.bool false) = We at rE HBE ⊢
        have q0 : We.cell? ⟨w.heap.size, 0, none⟩ = some (.int .i64 0) := by simpa using rE.cell 0
        have q1 : We.cell? ⟨w.heap.size, 1, none⟩ = some (.int .i64 0) := by simpa using rE.cell 1
        have q2 : We.cell? ⟨w.heap.size, 2, none⟩ = some (.int .i64 0) := by simpa using rE.cell 2
        have q3 : We.cell? ⟨w.heap.size, 3, none⟩ = some (.int .i64 0) := by simpa using rE.cell 3
        have q4 : We.cell? ⟨w.heap.size, 4, none⟩ = some (.int .i64 0) := by simpa using rE.cell 4
        have q5 : We.cell? ⟨w.heap.size, 5, none⟩ = some (.bool false) := by simpa using rE.cell 5
        exact bodyPost_ret (v := .tuple #[.agg #[.int .i64 0, .int .i64 0, .int .i64 0, .int .i64 0, .int .i64 0, .bool false], .bool false]) (by simp [results, Tryd.results7, go_sem, q0, q1, q2, q3, q4, q5]) rfl
          ⟨0, 0, 0, 0, 0, false, rfl, .inr ⟨rfl, ⟨rfl, rfl, rfl, rfl, rfl⟩, hno.out⟩, ⟨by omega, by omega, by omega⟩, HBE.out⟩
      · have HR2 : Hid (Rr R w g cur 1 w2) := by
          refine ⟨E2, HB2.out, r2, n2, hgl, ?_⟩
          intro id loan kind day' amt h1 h2 h3 h
          exact (HLET.out id loan kind day' amt h1 h2 h3 h).2.2.2.2.1
        have HDAY : Hid (∀ id loan kind day' amt : Int, id ≤ 9223372036854775807 → loan ≤ 9223372036854775807 → amt ≤ 9223372036854775807 → LetIs id loan kind day' amt (S R) true →
            day' = day ∧ id = x0 ∧ ((loan = x4 ∧ amt = wrap64 (wrap64 (x5 * 100) + x6)) ∨ (loan = x6 ∧ amt = wrap64 (wrap64 (x4 * 100) + x5)))) := by
          intro id loan kind day' amt h1 h2 h3 h
          obtain ⟨a1, a2, a3, a4, _⟩ := HLET.out id loan kind day' amt h1 h2 h3 h
          have hn := HNF.out
          unfold numF at hn
          rw [if_pos ((valid_iff x1 x2 x3).2 a1)] at hn
          simp only [Prod.mk.injEq, and_true] at hn
          exact ⟨a2.symm.trans hn, a3, a4⟩
        clear HLET HNF r2 n2 HB2 E2
        go_wp2_with fail
        go_loopw [7] (fun v7 wr => ∃ k : Int, 1 ≤ k ∧ k ≤ 10 ∧ v7 = .int .i64 k ∧ Hid (Rr R w g cur k wr)) (fun v7 _ => (10 - intOf v7).toNat)
        case atStart => exact ⟨1, by omega, by omega, rfl, HR2⟩
        case round =>
          obtain ⟨k, hk1, hk2, rfl, HRL⟩ := hrel
          obtain ⟨EK, BK, rK, nK, lK, HK⟩ := HRL.out
          have HKO := Lib.hid HK
          have HBK := Lib.hid BK
          clear HK HRL BK
          have q0 : wr.cell? ⟨g, 0, none⟩ = some (.int .i64 x0) := (nK.cell 0).trans s0
          have q4 : wr.cell? ⟨g, 4, none⟩ = some (.int .i64 x4) := (nK.cell 4).trans s4
          have q5 : wr.cell? ⟨g, 5, none⟩ = some (.int .i64 x5) := (nK.cell 5).trans s5
          have q6 : wr.cell? ⟨g, 6, none⟩ = some (.int .i64 x6) := (nK.cell 6).trans s6
          by_cases hlt : k ≤ 9
          · go_upto_region 10 with fail
            go_region_held3 (fun W => W.cell? ⟨g, 0, none⟩ = some (.int .i64 x0) ∧ W.cell? ⟨g, 4, none⟩ = some (.int .i64 x4) ∧ W.cell? ⟨g, 5, none⟩ = some (.int .i64 x5) ∧ W.cell? ⟨g, 6, none⟩ = some (.int .i64 x6) ∧ Below wr.heap.size wr W)
              (first | exact ⟨q0, q4, q5, q6, (Below.refl _ _).drew⟩ | assumption | exact keep4 nK.lt q0 q4 q5 q6 (((Below.refl _ _).alloc (Nat.le_refl _) _).drew) | exact keep4 nK.lt q0 q4 q5 q6 (((((((((Below.refl _ _).alloc (Nat.le_refl _) _).drew).setCell (Nat.le_refl _) _).setCell (Nat.le_refl _) _).setCell (Nat.le_refl _) _).setCell (Nat.le_refl _) _).setCell (Nat.le_refl _) _).setCell (Nat.le_refl _) _))
              (first | (go_at_call 99; skip))
            have hw1 : IntKind.i64.wrap (IntKind.i64.wrap (x5 * 100) + x6) = wrap64 (wrap64 (x5 * 100) + x6) := by simp [IntKind.wrap_i64, wrap64]
            rw [hw1]
            have ra := wrap64_rng (wrap64 (x5 * 100) + x6)
            generalize ha1 : wrap64 (wrap64 (x5 * 100) + x6) = a1 at *
            have bA : Blk ((wr.alloc (.cells #[.int .i64 x0, .int .i64 x4, .int .i64 k, .int .i64 day, .int .i64 a1, .bool false] 23)).drew) wr.heap.size 23 #[.int .i64 x0, .int .i64 x4, .int .i64 k, .int .i64 day, .int .i64 a1, .bool false] := Blk.new wr 23 _
            have hB : Below wr.heap.size wr ((wr.alloc (.cells #[.int .i64 x0, .int .i64 x4, .int .i64 k, .int .i64 day, .int .i64 a1, .bool false] 23)).drew) := ((Below.refl _ _).alloc (Nat.le_refl _) _).drew
            have n3 := nK.below hB nK.lt
            have r3 := rK.below hB rK.lt
            have HB3 : Hid (Below w.heap.size w ((wr.alloc (.cells #[.int .i64 x0, .int .i64 x4, .int .i64 k, .int .i64 day, .int .i64 a1, .bool false] 23)).drew)) := HBK.out.trans (hB.mono HBK.out.size)
            have lA : w.heap.size < wr.heap.size := rK.lt
            have lG : g < wr.heap.size := nK.lt
            generalize (wr.alloc (.cells #[.int .i64 x0, .int .i64 x4, .int .i64 k, .int .i64 day, .int .i64 a1, .bool false] 23)).drew = W3 at *
            generalize wr.heap.size = pA at *
            clear q0 q4 q5 q6 hw1 nK rK EK HBK hB
            have q0 : W3.cell? ⟨g, 0, none⟩ = some (.int .i64 x0) := (n3.cell 0).trans s0
            have q4 : W3.cell? ⟨g, 4, none⟩ = some (.int .i64 x4) := (n3.cell 4).trans s4
            have q5 : W3.cell? ⟨g, 5, none⟩ = some (.int .i64 x5) := (n3.cell 5).trans s5
            have q6 : W3.cell? ⟨g, 6, none⟩ = some (.int .i64 x6) := (n3.cell 6).trans s6
            go_upto_region 11 with fail
            go_region_held3 (fun W => W.cell? ⟨g, 0, none⟩ = some (.int .i64 x0) ∧ W.cell? ⟨g, 4, none⟩ = some (.int .i64 x4) ∧ W.cell? ⟨g, 5, none⟩ = some (.int .i64 x5) ∧ W.cell? ⟨g, 6, none⟩ = some (.int .i64 x6) ∧ Below W3.heap.size W3 W)
              (first | exact ⟨q0, q4, q5, q6, (Below.refl _ _).drew⟩ | assumption | exact keep4 n3.lt q0 q4 q5 q6 (((Below.refl _ _).alloc (Nat.le_refl _) _).drew) | exact keep4 n3.lt q0 q4 q5 q6 (((((((((Below.refl _ _).alloc (Nat.le_refl _) _).drew).setCell (Nat.le_refl _) _).setCell (Nat.le_refl _) _).setCell (Nat.le_refl _) _).setCell (Nat.le_refl _) _).setCell (Nat.le_refl _) _).setCell (Nat.le_refl _) _))
              (first | (go_at_call 99; skip))
            have hw2 : IntKind.i64.wrap (IntKind.i64.wrap (x4 * 100) + x5) = wrap64 (wrap64 (x4 * 100) + x5) := by simp [IntKind.wrap_i64, wrap64]
            rw [hw2]
            have rb := wrap64_rng (wrap64 (x4 * 100) + x5)
            generalize ha2 : wrap64 (wrap64 (x4 * 100) + x5) = a2 at *
            have bB : Blk ((W3.alloc (.cells #[.int .i64 x0, .int .i64 x6, .int .i64 k, .int .i64 day, .int .i64 a2, .bool false] 23)).drew) W3.heap.size 23 #[.int .i64 x0, .int .i64 x6, .int .i64 k, .int .i64 day, .int .i64 a2, .bool false] := Blk.new W3 23 _
            have hB : Below W3.heap.size W3 ((W3.alloc (.cells #[.int .i64 x0, .int .i64 x6, .int .i64 k, .int .i64 day, .int .i64 a2, .bool false] 23)).drew) := ((Below.refl _ _).alloc (Nat.le_refl _) _).drew
            have n4 := n3.below hB n3.lt
            have r4 := r3.below hB r3.lt
            have b4 := bA.below hB bA.lt
            have HB4 : Hid (Below w.heap.size w ((W3.alloc (.cells #[.int .i64 x0, .int .i64 x6, .int .i64 k, .int .i64 day, .int .i64 a2, .bool false] 23)).drew)) := HB3.out.trans (hB.mono HB3.out.size)
            have lB : pA < W3.heap.size := bA.lt
            generalize (W3.alloc (.cells #[.int .i64 x0, .int .i64 x6, .int .i64 k, .int .i64 day, .int .i64 a2, .bool false] 23)).drew = W4 at *
            generalize W3.heap.size = pB at *
            clear q0 q4 q5 q6 hw2 n3 r3 bA HB3 hB
            have y0 : W4.cell? ⟨pA, 0, none⟩ = some (.int .i64 x0) := by simpa using b4.cell 0
            have y1 : W4.cell? ⟨pA, 1, none⟩ = some (.int .i64 x4) := by simpa using b4.cell 1
            have y2 : W4.cell? ⟨pA, 2, none⟩ = some (.int .i64 k) := by simpa using b4.cell 2
            have y3 : W4.cell? ⟨pA, 3, none⟩ = some (.int .i64 day) := by simpa using b4.cell 3
            have y4 : W4.cell? ⟨pA, 4, none⟩ = some (.int .i64 a1) := by simpa using b4.cell 4
            have y5 : W4.cell? ⟨pA, 5, none⟩ = some (.bool false) := by simpa using b4.cell 5
            have E4 : Env W4 := E.below HB4.out
            go_wp2_with fail
            refine (tried_any R x0 x4 k day a1 _ E4 HR0.2 HR4.2 ra.2).mono ?_
            rintro e W5 ⟨t1, rfl, HT1, hb5⟩
            clear y0 y1 y2 y3 y4 y5
            have r5 := r4.below hb5 r4.lt
            have n5 := n4.below hb5 n4.lt
            have bA5 := b4.below hb5 b4.lt
            have bB5 := bB.below hb5 bB.lt
            have HB5 : Hid (Below w.heap.size w W5) := HB4.out.trans (hb5.mono HB4.out.size)
            have E5 := E4.below hb5
            clear r4 n4 b4 bB hb5 HB4 E4
            cases t1
            · have y0 : W5.cell? ⟨pB, 0, none⟩ = some (.int .i64 x0) := by simpa using bB5.cell 0
              have y1 : W5.cell? ⟨pB, 1, none⟩ = some (.int .i64 x6) := by simpa using bB5.cell 1
              have y2 : W5.cell? ⟨pB, 2, none⟩ = some (.int .i64 k) := by simpa using bB5.cell 2
              have y3 : W5.cell? ⟨pB, 3, none⟩ = some (.int .i64 day) := by simpa using bB5.cell 3
              have y4 : W5.cell? ⟨pB, 4, none⟩ = some (.int .i64 a2) := by simpa using bB5.cell 4
              have y5 : W5.cell? ⟨pB, 5, none⟩ = some (.bool false) := by simpa using bB5.cell 5
              go_wp2_with fail
              refine (tried_any R x0 x6 k day a2 _ E5 HR0.2 HR6.2 rb.2).mono ?_
              rintro e W6 ⟨t2, rfl, HT2, hb6⟩
              clear y0 y1 y2 y3 y4 y5
              have r6 := r5.below hb6 r5.lt
              have n6 := n5.below hb6 n5.lt
              have bB6 := bB5.below hb6 bB5.lt
              have HB6 : Hid (Below w.heap.size w W6) := HB5.out.trans (hb6.mono HB5.out.size)
              have E6 := E5.below hb6
              clear r5 n5 bA5 bB5 hb6 HB5 E5
              cases t2
              · have hno : Hid (∀ id loan kind day' amt : Int, id ≤ 9223372036854775807 → loan ≤ 9223372036854775807 → amt ≤ 9223372036854775807 → LetIs id loan kind day' amt (S R) true → k + 1 ≤ kind) := by
                  intro id loan kind day' amt h1 h2 h3 h
                  have q := HKO.out id loan kind day' amt h1 h2 h3 h
                  obtain ⟨p1, p2, p3⟩ := HDAY.out id loan kind day' amt h1 h2 h3 h
                  rcases (show k = kind ∨ k + 1 ≤ kind by omega) with e | e
                  · subst e p1 p2
                    rcases p3 with ⟨e1, e2⟩ | ⟨e1, e2⟩
                    · rw [e1, e2] at h
                      have := HT1.out.2 h
                      cases this
                    · rw [e1, e2] at h
                      have := HT2.out.2 h
                      cases this
                  · exact e
                go_wp2_with fail
                go_roundw
                case rel => exact ⟨k + 1, by omega, by omega, rfl, ⟨E6, HB6.out, r6, n6, lK, hno.out⟩⟩
                case measure => simp [intOf]; omega
              · clear HDAY HKO HT1
                have y0 : W6.cell? ⟨pB, 0, none⟩ = some (.int .i64 x0) := by simpa using bB6.cell 0
                have y1 : W6.cell? ⟨pB, 1, none⟩ = some (.int .i64 x6) := by simpa using bB6.cell 1
                have y2 : W6.cell? ⟨pB, 2, none⟩ = some (.int .i64 k) := by simpa using bB6.cell 2
                have y3 : W6.cell? ⟨pB, 3, none⟩ = some (.int .i64 day) := by simpa using bB6.cell 3
                have y4 : W6.cell? ⟨pB, 4, none⟩ = some (.int .i64 a2) := by simpa using bB6.cell 4
                have y5 : W6.cell? ⟨pB, 5, none⟩ = some (.bool false) := by simpa using bB6.cell 5
                have c0 : W6.cell? ⟨w.heap.size, 0, none⟩ = some (.int .i64 0) := by simpa using r6.cell 0
                have c1 : W6.cell? ⟨w.heap.size, 1, none⟩ = some (.int .i64 0) := by simpa using r6.cell 1
                have c2 : W6.cell? ⟨w.heap.size, 2, none⟩ = some (.int .i64 0) := by simpa using r6.cell 2
                have c3 : W6.cell? ⟨w.heap.size, 3, none⟩ = some (.int .i64 0) := by simpa using r6.cell 3
                have c4 : W6.cell? ⟨w.heap.size, 4, none⟩ = some (.int .i64 0) := by simpa using r6.cell 4
                have c5 : W6.cell? ⟨w.heap.size, 5, none⟩ = some (.bool false) := by simpa using r6.cell 5
                have f0 := r6.frozen 0
                have f1 := r6.frozen 1
                have f2 := r6.frozen 2
                have f3 := r6.frozen 3
                have f4 := r6.frozen 4
                have f5 := r6.frozen 5
                go_wp2_with fail
                have rE : Blk ((((((W6.setCell ⟨w.heap.size, 0, none⟩ (.int .i64 x0)).setCell ⟨w.heap.size, 1, none⟩ (.int .i64 x6)).setCell ⟨w.heap.size, 2, none⟩ (.int .i64 k)).setCell ⟨w.heap.size, 3, none⟩ (.int .i64 day)).setCell ⟨w.heap.size, 4, none⟩ (.int .i64 a2)).setCell ⟨w.heap.size, 5, none⟩ (.bool false)) w.heap.size 23 #[.int .i64 x0, .int .i64 x6, .int .i64 k, .int .i64 day, .int .i64 a2, .bool false] := ((((((r6.set_ 0 _).set_ 1 _).set_ 2 _).set_ 3 _).set_ 4 _).set_ 5 _)
                have HBE : Hid (Below w.heap.size w ((((((W6.setCell ⟨w.heap.size, 0, none⟩ (.int .i64 x0)).setCell ⟨w.heap.size, 1, none⟩ (.int .i64 x6)).setCell ⟨w.heap.size, 2, none⟩ (.int .i64 k)).setCell ⟨w.heap.size, 3, none⟩ (.int .i64 day)).setCell ⟨w.heap.size, 4, none⟩ (.int .i64 a2)).setCell ⟨w.heap.size, 5, none⟩ (.bool false))) := ((((((HB6.out.setCell (Nat.le_refl _) _).setCell (Nat.le_refl _) _).setCell (Nat.le_refl _) _).setCell (Nat.le_refl _) _).setCell (Nat.le_refl _) _).setCell (Nat.le_refl _) _)
                generalize (((((W6.setCell ⟨w.heap.size, 0, none⟩ (.int .i64 x0)).setCell ⟨w.heap.size, 1, none⟩ (.int .i64 x6)).setCell ⟨w.heap.size, 2, none⟩ (.int .i64 k)).setCell ⟨w.heap.size, 3, none⟩ (.int .i64 day)).setCell ⟨w.heap.size, 4, none⟩ (.int .i64 a2)).setCell ⟨w.heap.size, 5, none⟩ (.bool false) = We at rE HBE ⊢
                have q0 : We.cell? ⟨w.heap.size, 0, none⟩ = some (.int .i64 x0) := by simpa using rE.cell 0
                have q1 : We.cell? ⟨w.heap.size, 1, none⟩ = some (.int .i64 x6) := by simpa using rE.cell 1
                have q2 : We.cell? ⟨w.heap.size, 2, none⟩ = some (.int .i64 k) := by simpa using rE.cell 2
                have q3 : We.cell? ⟨w.heap.size, 3, none⟩ = some (.int .i64 day) := by simpa using rE.cell 3
                have q4 : We.cell? ⟨w.heap.size, 4, none⟩ = some (.int .i64 a2) := by simpa using rE.cell 4
                have q5 : We.cell? ⟨w.heap.size, 5, none⟩ = some (.bool false) := by simpa using rE.cell 5
                exact bodyPost_ret (v := .tuple #[.agg #[.int .i64 x0, .int .i64 x6, .int .i64 k, .int .i64 day, .int .i64 a2, .bool false], .bool true]) (by simp [results, Tryd.results7, go_sem, q0, q1, q2, q3, q4, q5]) rfl
                  ⟨x0, x6, k, day, a2, true, rfl, .inl ⟨rfl, HT2.out.1 (by first | rfl | trivial)⟩, ⟨HR0.2, HR6.2, rb.2⟩, HBE.out⟩
            · clear HDAY HKO
              have y0 : W5.cell? ⟨pA, 0, none⟩ = some (.int .i64 x0) := by simpa using bA5.cell 0
              have y1 : W5.cell? ⟨pA, 1, none⟩ = some (.int .i64 x4) := by simpa using bA5.cell 1
              have y2 : W5.cell? ⟨pA, 2, none⟩ = some (.int .i64 k) := by simpa using bA5.cell 2
              have y3 : W5.cell? ⟨pA, 3, none⟩ = some (.int .i64 day) := by simpa using bA5.cell 3
              have y4 : W5.cell? ⟨pA, 4, none⟩ = some (.int .i64 a1) := by simpa using bA5.cell 4
              have y5 : W5.cell? ⟨pA, 5, none⟩ = some (.bool false) := by simpa using bA5.cell 5
              have c0 : W5.cell? ⟨w.heap.size, 0, none⟩ = some (.int .i64 0) := by simpa using r5.cell 0
              have c1 : W5.cell? ⟨w.heap.size, 1, none⟩ = some (.int .i64 0) := by simpa using r5.cell 1
              have c2 : W5.cell? ⟨w.heap.size, 2, none⟩ = some (.int .i64 0) := by simpa using r5.cell 2
              have c3 : W5.cell? ⟨w.heap.size, 3, none⟩ = some (.int .i64 0) := by simpa using r5.cell 3
              have c4 : W5.cell? ⟨w.heap.size, 4, none⟩ = some (.int .i64 0) := by simpa using r5.cell 4
              have c5 : W5.cell? ⟨w.heap.size, 5, none⟩ = some (.bool false) := by simpa using r5.cell 5
              have f0 := r5.frozen 0
              have f1 := r5.frozen 1
              have f2 := r5.frozen 2
              have f3 := r5.frozen 3
              have f4 := r5.frozen 4
              have f5 := r5.frozen 5
              go_wp2_with fail
              have rE : Blk ((((((W5.setCell ⟨w.heap.size, 0, none⟩ (.int .i64 x0)).setCell ⟨w.heap.size, 1, none⟩ (.int .i64 x4)).setCell ⟨w.heap.size, 2, none⟩ (.int .i64 k)).setCell ⟨w.heap.size, 3, none⟩ (.int .i64 day)).setCell ⟨w.heap.size, 4, none⟩ (.int .i64 a1)).setCell ⟨w.heap.size, 5, none⟩ (.bool false)) w.heap.size 23 #[.int .i64 x0, .int .i64 x4, .int .i64 k, .int .i64 day, .int .i64 a1, .bool false] := ((((((r5.set_ 0 _).set_ 1 _).set_ 2 _).set_ 3 _).set_ 4 _).set_ 5 _)
              have HBE : Hid (Below w.heap.size w ((((((W5.setCell ⟨w.heap.size, 0, none⟩ (.int .i64 x0)).setCell ⟨w.heap.size, 1, none⟩ (.int .i64 x4)).setCell ⟨w.heap.size, 2, none⟩ (.int .i64 k)).setCell ⟨w.heap.size, 3, none⟩ (.int .i64 day)).setCell ⟨w.heap.size, 4, none⟩ (.int .i64 a1)).setCell ⟨w.heap.size, 5, none⟩ (.bool false))) := ((((((HB5.out.setCell (Nat.le_refl _) _).setCell (Nat.le_refl _) _).setCell (Nat.le_refl _) _).setCell (Nat.le_refl _) _).setCell (Nat.le_refl _) _).setCell (Nat.le_refl _) _)
              generalize (((((W5.setCell ⟨w.heap.size, 0, none⟩ (.int .i64 x0)).setCell ⟨w.heap.size, 1, none⟩ (.int .i64 x4)).setCell ⟨w.heap.size, 2, none⟩ (.int .i64 k)).setCell ⟨w.heap.size, 3, none⟩ (.int .i64 day)).setCell ⟨w.heap.size, 4, none⟩ (.int .i64 a1)).setCell ⟨w.heap.size, 5, none⟩ (.bool false) = We at rE HBE ⊢
              have q0 : We.cell? ⟨w.heap.size, 0, none⟩ = some (.int .i64 x0) := by simpa using rE.cell 0
              have q1 : We.cell? ⟨w.heap.size, 1, none⟩ = some (.int .i64 x4) := by simpa using rE.cell 1
              have q2 : We.cell? ⟨w.heap.size, 2, none⟩ = some (.int .i64 k) := by simpa using rE.cell 2
              have q3 : We.cell? ⟨w.heap.size, 3, none⟩ = some (.int .i64 day) := by simpa using rE.cell 3
              have q4 : We.cell? ⟨w.heap.size, 4, none⟩ = some (.int .i64 a1) := by simpa using rE.cell 4
              have q5 : We.cell? ⟨w.heap.size, 5, none⟩ = some (.bool false) := by simpa using rE.cell 5
              exact bodyPost_ret (v := .tuple #[.agg #[.int .i64 x0, .int .i64 x4, .int .i64 k, .int .i64 day, .int .i64 a1, .bool false], .bool true]) (by simp [results, Tryd.results7, go_sem, q0, q1, q2, q3, q4, q5]) rfl
                ⟨x0, x4, k, day, a1, true, rfl, .inl ⟨rfl, HT1.out.1 (by first | rfl | trivial)⟩, ⟨HR0.2, HR4.2, ra.2⟩, HBE.out⟩
          · obtain rfl : k = 10 := by omega
            have hno : Hid (∀ id loan kind day amt : Int, id ≤ 9223372036854775807 → loan ≤ 9223372036854775807 → amt ≤ 9223372036854775807 → ¬ LetIs id loan kind day amt (S R) true) := by
              intro id loan kind day amt h1 h2 h3 h
              have q := HKO.out id loan kind day amt h1 h2 h3 h
              rcases h with ⟨_, _, _, _, _, ho, _⟩ | ⟨_, _, hb⟩
              · have := ho.2.2.2.1; omega
              · cases hb
            clear q0 q4 q5 q6
            have f0 := rK.frozen 0
            have f1 := rK.frozen 1
            have f2 := rK.frozen 2
            have f3 := rK.frozen 3
            have f4 := rK.frozen 4
            have f5 := rK.frozen 5
            have c0 : wr.cell? ⟨w.heap.size, 0, none⟩ = some (.int .i64 0) := by simpa using rK.cell 0
            have c1 : wr.cell? ⟨w.heap.size, 1, none⟩ = some (.int .i64 0) := by simpa using rK.cell 1
            have c2 : wr.cell? ⟨w.heap.size, 2, none⟩ = some (.int .i64 0) := by simpa using rK.cell 2
            have c3 : wr.cell? ⟨w.heap.size, 3, none⟩ = some (.int .i64 0) := by simpa using rK.cell 3
            have c4 : wr.cell? ⟨w.heap.size, 4, none⟩ = some (.int .i64 0) := by simpa using rK.cell 4
            have c5 : wr.cell? ⟨w.heap.size, 5, none⟩ = some (.bool false) := by simpa using rK.cell 5
            go_wp2_with fail
            have rE : Blk ((((((wr.setCell ⟨w.heap.size, 0, none⟩ (.int .i64 0)).setCell ⟨w.heap.size, 1, none⟩ (.int .i64 0)).setCell ⟨w.heap.size, 2, none⟩ (.int .i64 0)).setCell ⟨w.heap.size, 3, none⟩ (.int .i64 0)).setCell ⟨w.heap.size, 4, none⟩ (.int .i64 0)).setCell ⟨w.heap.size, 5, none⟩ (.bool false)) w.heap.size 23 #[.int .i64 0, .int .i64 0, .int .i64 0, .int .i64 0, .int .i64 0, .bool false] := ((((((rK.set_ 0 _).set_ 1 _).set_ 2 _).set_ 3 _).set_ 4 _).set_ 5 _)
            have HBE : Hid (Below w.heap.size w ((((((wr.setCell ⟨w.heap.size, 0, none⟩ (.int .i64 0)).setCell ⟨w.heap.size, 1, none⟩ (.int .i64 0)).setCell ⟨w.heap.size, 2, none⟩ (.int .i64 0)).setCell ⟨w.heap.size, 3, none⟩ (.int .i64 0)).setCell ⟨w.heap.size, 4, none⟩ (.int .i64 0)).setCell ⟨w.heap.size, 5, none⟩ (.bool false))) := ((((((HBK.out.setCell (Nat.le_refl _) _).setCell (Nat.le_refl _) _).setCell (Nat.le_refl _) _).setCell (Nat.le_refl _) _).setCell (Nat.le_refl _) _).setCell (Nat.le_refl _) _)
            generalize (((((wr.setCell ⟨w.heap.size, 0, none⟩ (.int .i64 0)).setCell ⟨w.heap.size, 1, none⟩ (.int .i64 0)).setCell ⟨w.heap.size, 2, none⟩ (.int .i64 0)).setCell ⟨w.heap.size, 3, none⟩ (.int .i64 0)).setCell ⟨w.heap.size, 4, none⟩ (.int .i64 0)).setCell ⟨w.heap.size, 5, none⟩ (.bool false) = We at rE HBE ⊢
            have q0 : We.cell? ⟨w.heap.size, 0, none⟩ = some (.int .i64 0) := by simpa using rE.cell 0
            have q1 : We.cell? ⟨w.heap.size, 1, none⟩ = some (.int .i64 0) := by simpa using rE.cell 1
            have q2 : We.cell? ⟨w.heap.size, 2, none⟩ = some (.int .i64 0) := by simpa using rE.cell 2
            have q3 : We.cell? ⟨w.heap.size, 3, none⟩ = some (.int .i64 0) := by simpa using rE.cell 3
            have q4 : We.cell? ⟨w.heap.size, 4, none⟩ = some (.int .i64 0) := by simpa using rE.cell 4
            have q5 : We.cell? ⟨w.heap.size, 5, none⟩ = some (.bool false) := by simpa using rE.cell 5
            exact bodyPost_ret (v := .tuple #[.agg #[.int .i64 0, .int .i64 0, .int .i64 0, .int .i64 0, .int .i64 0, .bool false], .bool false]) (by simp [results, Tryd.results7, go_sem, q0, q1, q2, q3, q4, q5]) rfl
              ⟨0, 0, 0, 0, 0, false, rfl, .inr ⟨rfl, ⟨rfl, rfl, rfl, rfl, rfl⟩, hno.out⟩, ⟨by omega, by omega, by omega⟩, HBE.out⟩

  · have hno : Hid (∀ id loan kind day amt : Int, id ≤ 9223372036854775807 → loan ≤ 9223372036854775807 → amt ≤ 9223372036854775807 → ¬ LetIs id loan kind day amt (S R) true) :=
      fun id loan kind day amt h1 h2 h3 h => hl7 (let_runs HG.out h h1 h2 h3).1
    have f0 := r1.frozen 0
    have f1 := r1.frozen 1
    have f2 := r1.frozen 2
    have f3 := r1.frozen 3
    have f4 := r1.frozen 4
    have f5 := r1.frozen 5
    have c0 : w1.cell? ⟨w.heap.size, 0, none⟩ = some (.int .i64 0) := by simpa using r1.cell 0
    have c1 : w1.cell? ⟨w.heap.size, 1, none⟩ = some (.int .i64 0) := by simpa using r1.cell 1
    have c2 : w1.cell? ⟨w.heap.size, 2, none⟩ = some (.int .i64 0) := by simpa using r1.cell 2
    have c3 : w1.cell? ⟨w.heap.size, 3, none⟩ = some (.int .i64 0) := by simpa using r1.cell 3
    have c4 : w1.cell? ⟨w.heap.size, 4, none⟩ = some (.int .i64 0) := by simpa using r1.cell 4
    have c5 : w1.cell? ⟨w.heap.size, 5, none⟩ = some (.bool false) := by simpa using r1.cell 5
    rcases HO.out.2 with ⟨rfl, h0⟩ | ⟨g, cap, cur, rfl, _⟩
    · go_wp2_with fail
      have rE : Blk ((((((w1.setCell ⟨w.heap.size, 0, none⟩ (.int .i64 0)).setCell ⟨w.heap.size, 1, none⟩ (.int .i64 0)).setCell ⟨w.heap.size, 2, none⟩ (.int .i64 0)).setCell ⟨w.heap.size, 3, none⟩ (.int .i64 0)).setCell ⟨w.heap.size, 4, none⟩ (.int .i64 0)).setCell ⟨w.heap.size, 5, none⟩ (.bool false)) w.heap.size 23 #[.int .i64 0, .int .i64 0, .int .i64 0, .int .i64 0, .int .i64 0, .bool false] := ((((((r1.set_ 0 _).set_ 1 _).set_ 2 _).set_ 3 _).set_ 4 _).set_ 5 _)
      have HBE : Hid (Below w.heap.size w ((((((w1.setCell ⟨w.heap.size, 0, none⟩ (.int .i64 0)).setCell ⟨w.heap.size, 1, none⟩ (.int .i64 0)).setCell ⟨w.heap.size, 2, none⟩ (.int .i64 0)).setCell ⟨w.heap.size, 3, none⟩ (.int .i64 0)).setCell ⟨w.heap.size, 4, none⟩ (.int .i64 0)).setCell ⟨w.heap.size, 5, none⟩ (.bool false))) := ((((((HB1.out.setCell (Nat.le_refl _) _).setCell (Nat.le_refl _) _).setCell (Nat.le_refl _) _).setCell (Nat.le_refl _) _).setCell (Nat.le_refl _) _).setCell (Nat.le_refl _) _)
      generalize (((((w1.setCell ⟨w.heap.size, 0, none⟩ (.int .i64 0)).setCell ⟨w.heap.size, 1, none⟩ (.int .i64 0)).setCell ⟨w.heap.size, 2, none⟩ (.int .i64 0)).setCell ⟨w.heap.size, 3, none⟩ (.int .i64 0)).setCell ⟨w.heap.size, 4, none⟩ (.int .i64 0)).setCell ⟨w.heap.size, 5, none⟩ (.bool false) = We at rE HBE ⊢
      have q0 : We.cell? ⟨w.heap.size, 0, none⟩ = some (.int .i64 0) := by simpa using rE.cell 0
      have q1 : We.cell? ⟨w.heap.size, 1, none⟩ = some (.int .i64 0) := by simpa using rE.cell 1
      have q2 : We.cell? ⟨w.heap.size, 2, none⟩ = some (.int .i64 0) := by simpa using rE.cell 2
      have q3 : We.cell? ⟨w.heap.size, 3, none⟩ = some (.int .i64 0) := by simpa using rE.cell 3
      have q4 : We.cell? ⟨w.heap.size, 4, none⟩ = some (.int .i64 0) := by simpa using rE.cell 4
      have q5 : We.cell? ⟨w.heap.size, 5, none⟩ = some (.bool false) := by simpa using rE.cell 5
      exact bodyPost_ret (v := .tuple #[.agg #[.int .i64 0, .int .i64 0, .int .i64 0, .int .i64 0, .int .i64 0, .bool false], .bool false]) (by simp [results, Tryd.results7, go_sem, q0, q1, q2, q3, q4, q5]) rfl
        ⟨0, 0, 0, 0, 0, false, rfl, .inr ⟨rfl, ⟨rfl, rfl, rfl, rfl, rfl⟩, hno.out⟩, ⟨by omega, by omega, by omega⟩, HBE.out⟩
    · go_wp2_with fail
      have rE : Blk ((((((w1.setCell ⟨w.heap.size, 0, none⟩ (.int .i64 0)).setCell ⟨w.heap.size, 1, none⟩ (.int .i64 0)).setCell ⟨w.heap.size, 2, none⟩ (.int .i64 0)).setCell ⟨w.heap.size, 3, none⟩ (.int .i64 0)).setCell ⟨w.heap.size, 4, none⟩ (.int .i64 0)).setCell ⟨w.heap.size, 5, none⟩ (.bool false)) w.heap.size 23 #[.int .i64 0, .int .i64 0, .int .i64 0, .int .i64 0, .int .i64 0, .bool false] := ((((((r1.set_ 0 _).set_ 1 _).set_ 2 _).set_ 3 _).set_ 4 _).set_ 5 _)
      have HBE : Hid (Below w.heap.size w ((((((w1.setCell ⟨w.heap.size, 0, none⟩ (.int .i64 0)).setCell ⟨w.heap.size, 1, none⟩ (.int .i64 0)).setCell ⟨w.heap.size, 2, none⟩ (.int .i64 0)).setCell ⟨w.heap.size, 3, none⟩ (.int .i64 0)).setCell ⟨w.heap.size, 4, none⟩ (.int .i64 0)).setCell ⟨w.heap.size, 5, none⟩ (.bool false))) := ((((((HB1.out.setCell (Nat.le_refl _) _).setCell (Nat.le_refl _) _).setCell (Nat.le_refl _) _).setCell (Nat.le_refl _) _).setCell (Nat.le_refl _) _).setCell (Nat.le_refl _) _)
      generalize (((((w1.setCell ⟨w.heap.size, 0, none⟩ (.int .i64 0)).setCell ⟨w.heap.size, 1, none⟩ (.int .i64 0)).setCell ⟨w.heap.size, 2, none⟩ (.int .i64 0)).setCell ⟨w.heap.size, 3, none⟩ (.int .i64 0)).setCell ⟨w.heap.size, 4, none⟩ (.int .i64 0)).setCell ⟨w.heap.size, 5, none⟩ (.bool false) = We at rE HBE ⊢
      have q0 : We.cell? ⟨w.heap.size, 0, none⟩ = some (.int .i64 0) := by simpa using rE.cell 0
      have q1 : We.cell? ⟨w.heap.size, 1, none⟩ = some (.int .i64 0) := by simpa using rE.cell 1
      have q2 : We.cell? ⟨w.heap.size, 2, none⟩ = some (.int .i64 0) := by simpa using rE.cell 2
      have q3 : We.cell? ⟨w.heap.size, 3, none⟩ = some (.int .i64 0) := by simpa using rE.cell 3
      have q4 : We.cell? ⟨w.heap.size, 4, none⟩ = some (.int .i64 0) := by simpa using rE.cell 4
      have q5 : We.cell? ⟨w.heap.size, 5, none⟩ = some (.bool false) := by simpa using rE.cell 5
      exact bodyPost_ret (v := .tuple #[.agg #[.int .i64 0, .int .i64 0, .int .i64 0, .int .i64 0, .int .i64 0, .bool false], .bool false]) (by simp [results, Tryd.results7, go_sem, q0, q1, q2, q3, q4, q5]) rfl
        ⟨0, 0, 0, 0, 0, false, rfl, .inr ⟨rfl, ⟨rfl, rfl, rfl, rfl, rfl⟩, hno.out⟩, ⟨by omega, by omega, by omega⟩, HBE.out⟩
end Go.Proofs.YtojjemokejmcjaaDoor.RL
