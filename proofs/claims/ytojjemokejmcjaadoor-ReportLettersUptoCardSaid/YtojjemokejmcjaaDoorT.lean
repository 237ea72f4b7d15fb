/- report.ReadLetter. -/
import Derived.Test.YtojjemokejmcjaaDoorR
import Derived.Test.YtojjemokejmcjaaDoorM
namespace Go.Proofs.YtojjemokejmcjaaDoor.RL
open Go.RowKit Go.Sort Arr

def Blk (w : World) (g : Nat) (t : TypeId) (cs : Array Value) : Prop := w.heap[g]? = some (.cells cs t (0, 0))
section
variable {w w' : World} {g : Nat} {t : TypeId} {cs : Array Value}
theorem Blk.lt (h : Blk w g t cs) : g < w.heap.size := by
  rcases Nat.lt_or_ge g w.heap.size with hlt | hge
  · exact hlt
  · unfold Blk at h; rw [Array.getElem?_eq_none hge] at h; cases h
theorem Blk.cell (h : Blk w g t cs) (i : Nat) : w.cell? ⟨g, i, none⟩ = cs[i]? := cell_of_row w g i cs t (0, 0) h
theorem Blk.frozen (h : Blk w g t cs) (i : Nat) : w.frozen? ⟨g, i, none⟩ = false := by
  unfold Blk at h
  simp [World.frozen?, h]
theorem Blk.new (w : World) (t : TypeId) (cs : Array Value) : Blk (w.alloc (.cells cs t)) w.heap.size t cs := heap_alloc_new w _
theorem Blk.drewN (h : Blk w g t cs) (n : Nat) : Blk (w.drewN n) g t cs := h
theorem Blk.alloc (h : Blk w g t cs) (o : Obj) : Blk (w.alloc o) g t cs := (Below.heap_alloc w o g h.lt).trans h
theorem Blk.set_ (h : Blk w g t cs) (i : Nat) (u : Value) : Blk (w.setCell ⟨g, i, none⟩ u) g t (cs.setIfInBounds i u) := by
  unfold Blk at h ⊢
  simp [World.setCell, Array.getElem?_modify, h]
theorem Blk.far (h : Blk w g t cs) {p : Addr} (hp : g ≠ p.block) (u : Value) : Blk (w.setCell p u) g t cs := (Below.heap_setCell w p u g hp).trans h
theorem Blk.below {B : Nat} (h : Blk w g t cs) (hb : Below B w w') (hg : g < B) : Blk w' g t cs := (hb.block g hg).trans h
end

/-- What a reader of letters answers. -/
def RlIs (R : List UInt8) (id loan kind day amt : Int) (b : Bool) : Prop :=
  (b = true ∧ LetIs id loan kind day amt (S R) true) ∨ (b = false ∧ (id = 0 ∧ loan = 0 ∧ kind = 0 ∧ day = 0 ∧ amt = 0) ∧ ∀ id' loan' kind' day' amt' : Int, id' ≤ 9223372036854775807 → loan' ≤ 9223372036854775807 → amt' ≤ 9223372036854775807 → ¬ LetIs id' loan' kind' day' amt' (S R) true)
def RlPost (R : List UInt8) (w : World) (e : Ending) (w' : World) : Prop :=
  ∃ (id loan kind day amt : Int) (b : Bool), e = .returned (.tuple #[.agg #[.int .i64 id, .int .i64 loan, .int .i64 kind, .int .i64 day, .int .i64 amt, .bool false], .bool b]) ∧ RlIs R id loan kind day amt b ∧ (id ≤ 9223372036854775807 ∧ loan ≤ 9223372036854775807 ∧ amt ≤ 9223372036854775807) ∧ Below w.heap.size w w'
theorem rlIs_one {R : List UInt8} {id loan kind day amt id' loan' kind' day' amt' : Int} {b b' : Bool} (h : RlIs R id loan kind day amt b) (h' : RlIs R id' loan' kind' day' amt' b')
    (hr : id ≤ 9223372036854775807 ∧ loan ≤ 9223372036854775807 ∧ amt ≤ 9223372036854775807) (hr' : id' ≤ 9223372036854775807 ∧ loan' ≤ 9223372036854775807 ∧ amt' ≤ 9223372036854775807) :
    id = id' ∧ loan = loan' ∧ kind = kind' ∧ day = day' ∧ amt = amt' ∧ b = b' := by
  rcases h with ⟨hb, hl⟩ | ⟨hb, hz, hn⟩ <;> rcases h' with ⟨hb', hl'⟩ | ⟨hb', hz', hn'⟩
  · obtain ⟨a, b, c, d, e⟩ := letIs_inj hl hl'
    exact ⟨a, b, c, d, e, hb.trans hb'.symm⟩
  · exact absurd hl (hn' _ _ _ _ _ hr.1 hr.2.1 hr.2.2)
  · exact absurd hl' (hn _ _ _ _ _ hr'.1 hr'.2.1 hr'.2.2)
  · obtain ⟨a, b, c, d, e⟩ := hz
    obtain ⟨a', b', c', d', e'⟩ := hz'
    exact ⟨by omega, by omega, by omega, by omega, by omega, hb.trans hb'.symm⟩

theorem toList_inj {a b : ByteArray} (h : a.toList = b.toList) : a = b := by
  rw [ByteArray.toList_eq, ByteArray.toList_eq] at h
  exact ByteArray.ext (Array.toList_inj.1 h)
theorem pn58 : ∀ x ∈ Let.pN, x ≠ 58 := by decide
theorem po58 : ∀ x ∈ Let.pOf, x ≠ 58 := by decide
/-- A letter's head taken apart. -/
theorem head_parts (R : List UInt8) (id loan kind day amt : Int) (h : LetIs id loan kind day amt (S R) true) :
    ∃ y m d : Nat, Cal.Valid y m d ∧ Cal.num y m d = day ∧ Okay id loan kind day amt ∧
      Lib.cut R Let.pCol = (Let.pN ++ (Lib.decDigits id.toNat ++ (Let.pOf ++ Let.date y m d)), Let.sent kind loan.toNat amt.toNat, true) ∧
      Lib.cut (Lib.trimPrefix (Let.pN ++ (Lib.decDigits id.toNat ++ (Let.pOf ++ Let.date y m d))) Let.pN) Let.pOf = (Lib.decDigits id.toNat, Let.date y m d, true) := by
  rcases h with ⟨y, m, d, hv, hn, ho, hs, _⟩ | ⟨_, _, hb⟩
  · have hR := S_inj hs
    obtain ⟨y, rfl⟩ := Int.eq_ofNat_of_zero_le (show 0 ≤ y by unfold Cal.Valid at hv; omega)
    obtain ⟨m, rfl⟩ := Int.eq_ofNat_of_zero_le (show 0 ≤ m by unfold Cal.Valid at hv; omega)
    obtain ⟨d, rfl⟩ := Int.eq_ofNat_of_zero_le (show 0 ≤ d by unfold Cal.Valid at hv; omega)
    refine ⟨y, m, d, hv, hn, ho, ?_, ?_⟩
    · have e : R = (Let.pN ++ (Lib.decDigits id.toNat ++ (Let.pOf ++ Let.date y m d))) ++ (58 :: [32] ++ Let.sent kind loan.toNat amt.toNat) := by
        rw [hR]; unfold Let.letter Let.pCol
        simp only [Int.toNat_natCast, List.append_assoc]
        first | done | rfl
      rw [e]
      refine Let.cut_at _ [32] _ 58 ?_
      intro x hx
      have hd58 : ∀ c, Let.isD c = true → c ≠ 58 := fun c hc e => by rw [e] at hc; exact absurd hc (by decide)
      rcases List.mem_append.1 hx with h | h
      · exact pn58 x h
      · rcases List.mem_append.1 h with h | h
        · exact hd58 x (Let.decDigits_D _ x h)
        · rcases List.mem_append.1 h with h | h
          · exact po58 x h
          · unfold Let.date at h
            rcases List.mem_append.1 h with h | h
            · exact hd58 x (Let.pad_D 4 _ x h)
            · rcases List.mem_append.1 h with h | h
              · rw [List.mem_singleton] at h; rw [h]; decide
              · rcases List.mem_append.1 h with h | h
                · exact hd58 x (Let.pad_D 2 _ x h)
                · rcases List.mem_append.1 h with h | h
                  · rw [List.mem_singleton] at h; rw [h]; decide
                  · exact hd58 x (Let.pad_D 2 _ x h)
    · rw [trimPrefix_app]
      exact Let.cut_at (Lib.decDigits id.toNat) [111, 102, 32] (Let.date y m d) 32 (dec_no32 _)
  · cases hb

/-- The loop's state: what lies in the notice under way, and what was found out. -/
structure Rl (R rest : List UInt8) (w0 : World) (bn : Nat) (id day : Int) (k : Int) (W : World) : Prop where
  env : Env W
  below : Below w0.heap.size w0 W
  res : Blk W w0.heap.size 23 #[.int .i64 0, .int .i64 0, .int .i64 0, .int .i64 0, .int .i64 0, .bool false]
  ntc : ∃ v1 v2 v4 : Int, Blk W bn 23 #[.int .i64 id, .int .i64 v1, .int .i64 v2, .int .i64 day, .int .i64 v4, .bool false]
  lo : w0.heap.size < bn
  out : ∀ id' loan' kind' day' amt' : Int, id' ≤ 9223372036854775807 → loan' ≤ 9223372036854775807 → amt' ≤ 9223372036854775807 → LetIs id' loan' kind' day' amt' (S R) true → id' = id ∧ day' = day ∧ rest = Let.sent kind' loan'.toNat amt'.toNat ∧ k ≤ kind'

set_option maxRecDepth 100000 in
set_option maxHeartbeats 8000000 in
theorem rlet_early (R head rest h2 ids dts : List UInt8) (b1 b2 : Bool) (w : World) (E : Env w) (hb : ¬ (b1 = true ∧ b2 = true))
    (hno : Hid (∀ id loan kind day amt : Int, LetIs id loan kind day amt (S R) true → False))
    (C1 : ∀ W, Env W → Calls Tryd.prog 15 #[.string (S R), .string (S Let.pCol)] W fun e w' => e = .returned (.tuple #[.string (S head), .string (S rest), .bool b1]) ∧ ∃ n, w' = W.drewN n)
    (C2 : ∀ W, Calls Tryd.prog 16 #[.string (S head), .string (S Let.pN)] W fun e w' => e = .returned (.string ⟨h2.toArray⟩) ∧ w' = W)
    (C3 : ∀ W, Env W → Calls Tryd.prog 15 #[.string (S h2), .string (S Let.pOf)] W fun e w' => e = .returned (.tuple #[.string (S ids), .string (S dts), .bool b2]) ∧ ∃ n, w' = W.drewN n) :
    Calls Tryd.prog 6 #[.string (S R)] w (RlPost R w) := by
  have E1 : ∀ o n, Env ((w.alloc o).drewN n) := fun o n => E.below (below_drewN ((Below.refl _ _).alloc (Nat.le_refl _) _) n)
  have E0 : ∀ o, Env (w.alloc o) := fun o => E.below ((Below.refl _ _).alloc (Nat.le_refl _) _)
  go_enter Tryd.func6, Tryd.ntmps6
  go_upto_region 5 with fail
  refine (C1 _ (E0 _)).mono ?_
  rintro e w' ⟨rfl, n1, rfl⟩
  go_upto_region 5 with fail
  refine (C2 _).mono ?_
  rintro e w' ⟨rfl, rfl⟩
  go_upto_region 5 with fail
  refine (C3 _ (E1 _ _)).mono ?_
  rintro e w' ⟨rfl, n2, rfl⟩
  have r0 : Blk ((w.alloc (.cells #[.int .i64 0, .int .i64 0, .int .i64 0, .int .i64 0, .int .i64 0, .bool false] 23)).drewN (n1 + n2)) w.heap.size 23 #[.int .i64 0, .int .i64 0, .int .i64 0, .int .i64 0, .int .i64 0, .bool false] := (Blk.new w 23 _).drewN _
  have hB0 : Below w.heap.size w ((w.alloc (.cells #[.int .i64 0, .int .i64 0, .int .i64 0, .int .i64 0, .int .i64 0, .bool false] 23)).drewN (n1 + n2)) := below_drewN ((Below.refl _ _).alloc (Nat.le_refl _) _) _
  clear C1 C2 C3 E1 E0
  cases b1
  · go_wp2_with fail

    generalize (w.alloc (.cells #[.int .i64 0, .int .i64 0, .int .i64 0, .int .i64 0, .int .i64 0, .bool false] 23)).drewN (n1 + n2) = W0 at r0 hB0 ⊢
    have rE : Blk ((((((W0.setCell ⟨w.heap.size, 0, none⟩ (.int .i64 0)).setCell ⟨w.heap.size, 1, none⟩ (.int .i64 0)).setCell ⟨w.heap.size, 2, none⟩ (.int .i64 0)).setCell ⟨w.heap.size, 3, none⟩ (.int .i64 0)).setCell ⟨w.heap.size, 4, none⟩ (.int .i64 0)).setCell ⟨w.heap.size, 5, none⟩ (.bool false)) w.heap.size 23 #[.int .i64 0, .int .i64 0, .int .i64 0, .int .i64 0, .int .i64 0, .bool false] :=
        (((((r0.set_ 0 _).set_ 1 _).set_ 2 _).set_ 3 _).set_ 4 _).set_ 5 _
    have HBE : Hid (Below w.heap.size w ((((((W0.setCell ⟨w.heap.size, 0, none⟩ (.int .i64 0)).setCell ⟨w.heap.size, 1, none⟩ (.int .i64 0)).setCell ⟨w.heap.size, 2, none⟩ (.int .i64 0)).setCell ⟨w.heap.size, 3, none⟩ (.int .i64 0)).setCell ⟨w.heap.size, 4, none⟩ (.int .i64 0)).setCell ⟨w.heap.size, 5, none⟩ (.bool false))) :=
      (((((hB0.setCell (Nat.le_refl _) _).setCell (Nat.le_refl _) _).setCell (Nat.le_refl _) _).setCell (Nat.le_refl _) _).setCell (Nat.le_refl _) _).setCell (Nat.le_refl _) _
    generalize (((((W0.setCell ⟨w.heap.size, 0, none⟩ (.int .i64 0)).setCell ⟨w.heap.size, 1, none⟩ (.int .i64 0)).setCell ⟨w.heap.size, 2, none⟩ (.int .i64 0)).setCell ⟨w.heap.size, 3, none⟩ (.int .i64 0)).setCell ⟨w.heap.size, 4, none⟩ (.int .i64 0)).setCell ⟨w.heap.size, 5, none⟩ (.bool false) = We at rE HBE ⊢
    have q0 : We.cell? ⟨w.heap.size, 0, none⟩ = some (.int .i64 0) := by simpa using rE.cell 0
    have q1 : We.cell? ⟨w.heap.size, 1, none⟩ = some (.int .i64 0) := by simpa using rE.cell 1
    have q2 : We.cell? ⟨w.heap.size, 2, none⟩ = some (.int .i64 0) := by simpa using rE.cell 2
    have q3 : We.cell? ⟨w.heap.size, 3, none⟩ = some (.int .i64 0) := by simpa using rE.cell 3
    have q4 : We.cell? ⟨w.heap.size, 4, none⟩ = some (.int .i64 0) := by simpa using rE.cell 4
    have q5 : We.cell? ⟨w.heap.size, 5, none⟩ = some (.bool false) := by simpa using rE.cell 5
    exact bodyPost_ret (v := .tuple #[.agg #[.int .i64 0, .int .i64 0, .int .i64 0, .int .i64 0, .int .i64 0, .bool false], .bool false]) (by simp [results, Tryd.results6, go_sem, q0, q1, q2, q3, q4, q5]) rfl
      ⟨0, 0, 0, 0, 0, false, rfl, .inr ⟨rfl, ⟨rfl, rfl, rfl, rfl, rfl⟩, fun id' loan' kind' day' amt' _ _ _ h => hno.out id' loan' kind' day' amt' h⟩, ⟨by omega, by omega, by omega⟩, HBE.out⟩
  · cases b2
    · go_wp2_with fail

      generalize (w.alloc (.cells #[.int .i64 0, .int .i64 0, .int .i64 0, .int .i64 0, .int .i64 0, .bool false] 23)).drewN (n1 + n2) = W0 at r0 hB0 ⊢
      have rE : Blk ((((((W0.setCell ⟨w.heap.size, 0, none⟩ (.int .i64 0)).setCell ⟨w.heap.size, 1, none⟩ (.int .i64 0)).setCell ⟨w.heap.size, 2, none⟩ (.int .i64 0)).setCell ⟨w.heap.size, 3, none⟩ (.int .i64 0)).setCell ⟨w.heap.size, 4, none⟩ (.int .i64 0)).setCell ⟨w.heap.size, 5, none⟩ (.bool false)) w.heap.size 23 #[.int .i64 0, .int .i64 0, .int .i64 0, .int .i64 0, .int .i64 0, .bool false] :=
          (((((r0.set_ 0 _).set_ 1 _).set_ 2 _).set_ 3 _).set_ 4 _).set_ 5 _
      have HBE : Hid (Below w.heap.size w ((((((W0.setCell ⟨w.heap.size, 0, none⟩ (.int .i64 0)).setCell ⟨w.heap.size, 1, none⟩ (.int .i64 0)).setCell ⟨w.heap.size, 2, none⟩ (.int .i64 0)).setCell ⟨w.heap.size, 3, none⟩ (.int .i64 0)).setCell ⟨w.heap.size, 4, none⟩ (.int .i64 0)).setCell ⟨w.heap.size, 5, none⟩ (.bool false))) :=
        (((((hB0.setCell (Nat.le_refl _) _).setCell (Nat.le_refl _) _).setCell (Nat.le_refl _) _).setCell (Nat.le_refl _) _).setCell (Nat.le_refl _) _).setCell (Nat.le_refl _) _
      generalize (((((W0.setCell ⟨w.heap.size, 0, none⟩ (.int .i64 0)).setCell ⟨w.heap.size, 1, none⟩ (.int .i64 0)).setCell ⟨w.heap.size, 2, none⟩ (.int .i64 0)).setCell ⟨w.heap.size, 3, none⟩ (.int .i64 0)).setCell ⟨w.heap.size, 4, none⟩ (.int .i64 0)).setCell ⟨w.heap.size, 5, none⟩ (.bool false) = We at rE HBE ⊢
      have q0 : We.cell? ⟨w.heap.size, 0, none⟩ = some (.int .i64 0) := by simpa using rE.cell 0
      have q1 : We.cell? ⟨w.heap.size, 1, none⟩ = some (.int .i64 0) := by simpa using rE.cell 1
      have q2 : We.cell? ⟨w.heap.size, 2, none⟩ = some (.int .i64 0) := by simpa using rE.cell 2
      have q3 : We.cell? ⟨w.heap.size, 3, none⟩ = some (.int .i64 0) := by simpa using rE.cell 3
      have q4 : We.cell? ⟨w.heap.size, 4, none⟩ = some (.int .i64 0) := by simpa using rE.cell 4
      have q5 : We.cell? ⟨w.heap.size, 5, none⟩ = some (.bool false) := by simpa using rE.cell 5
      exact bodyPost_ret (v := .tuple #[.agg #[.int .i64 0, .int .i64 0, .int .i64 0, .int .i64 0, .int .i64 0, .bool false], .bool false]) (by simp [results, Tryd.results6, go_sem, q0, q1, q2, q3, q4, q5]) rfl
        ⟨0, 0, 0, 0, 0, false, rfl, .inr ⟨rfl, ⟨rfl, rfl, rfl, rfl, rfl⟩, fun id' loan' kind' day' amt' _ _ _ h => hno.out id' loan' kind' day' amt' h⟩, ⟨by omega, by omega, by omega⟩, HBE.out⟩
    · exact absurd ⟨rfl, rfl⟩ hb
set_option maxRecDepth 100000 in
set_option maxHeartbeats 8000000 in
theorem rlet_any (R : List UInt8) (hR : R.length ≤ 2000000) (w : World) (E : Env w) :
    Calls Tryd.prog 6 #[.string (S R)] w (RlPost R w) := by
  have HH := Lib.hid (head_parts R)
  have C1 := fun W E => cut_any R Let.pCol W hR E
  have l1 := cut1_le R Let.pCol
  have l2 := cut2_le R Let.pCol
  generalize hc1 : Lib.cut R Let.pCol = c1 at C1 l1 l2
  obtain ⟨head, rest, b1⟩ := c1
  simp only at l1 l2
  have C2 := fun W => Tryd.strings_TrimPrefix (S head) (S Let.pN) W
  have l3 := trimPrefix_le head Let.pN
  simp only [S_data] at C2
  generalize hc2 : Lib.trimPrefix head Let.pN = h2 at C2 l3
  have C3 := fun W E => cut_any h2 Let.pOf W (by omega) E
  have l4 := cut1_le h2 Let.pOf
  have l5 := cut2_le h2 Let.pOf
  generalize hc3 : Lib.cut h2 Let.pOf = c3 at C3 l4 l5
  obtain ⟨ids, dts, b2⟩ := c3
  simp only at l4 l5
  have HC : Hid (∀ id loan kind day amt : Int, LetIs id loan kind day amt (S R) true → ∃ y m d : Nat, Cal.Valid y m d ∧ Cal.num y m d = day ∧ Okay id loan kind day amt ∧ b1 = true ∧ b2 = true ∧ rest = Let.sent kind loan.toNat amt.toNat ∧ ids = Lib.decDigits id.toNat ∧ dts = Let.date y m d) := by
    intro id loan kind day amt h
    obtain ⟨y, m, d, hv, hn, ho, e1, e2⟩ := HH.out id loan kind day amt h
    rw [hc1] at e1
    simp only [Prod.mk.injEq] at e1
    rw [e1.1] at hc2
    rw [hc2, hc3] at e2
    simp only [Prod.mk.injEq] at e2
    exact ⟨y, m, d, hv, hn, ho, e1.2.2, e2.2.2, e1.2.1, e2.1, e2.2.1⟩
  have L1 : rest.length ≤ 2000000 := by omega
  have L2 : ids.length ≤ 2000000 := by omega
  clear HH hc1 hc2 hc3 l1 l2 l3 l4 l5
  have E1 : ∀ o n, Env ((w.alloc o).drewN n) := fun o n => E.below (below_drewN ((Below.refl _ _).alloc (Nat.le_refl _) _) n)
  have E0 : ∀ o, Env (w.alloc o) := fun o => E.below ((Below.refl _ _).alloc (Nat.le_refl _) _)
  by_cases hb : b1 = true ∧ b2 = true
  · obtain ⟨rfl, rfl⟩ := hb
    go_enter Tryd.func6, Tryd.ntmps6
    go_upto_region 5 with fail
    refine (C1 _ (E0 _)).mono ?_
    rintro e w' ⟨rfl, n1, rfl⟩
    go_upto_region 5 with fail
    refine (C2 _).mono ?_
    rintro e w' ⟨rfl, rfl⟩
    go_upto_region 5 with fail
    refine (C3 _ (E1 _ _)).mono ?_
    rintro e w' ⟨rfl, n2, rfl⟩
    go_upto_region 6 with fail
    have r0 : Blk (((w.alloc (.cells #[.int .i64 0, .int .i64 0, .int .i64 0, .int .i64 0, .int .i64 0, .bool false] 23)).drewN (n1 + n2)).alloc (.cells #[.int .i64 0, .int .i64 0, .int .i64 0, .int .i64 0, .int .i64 0, .bool false] 23)) w.heap.size 23 #[.int .i64 0, .int .i64 0, .int .i64 0, .int .i64 0, .int .i64 0, .bool false] := ((Blk.new w 23 _).drewN _).alloc _
    have nn0 : Blk (((w.alloc (.cells #[.int .i64 0, .int .i64 0, .int .i64 0, .int .i64 0, .int .i64 0, .bool false] 23)).drewN (n1 + n2)).alloc (.cells #[.int .i64 0, .int .i64 0, .int .i64 0, .int .i64 0, .int .i64 0, .bool false] 23)) (w.heap.size + 1) 23 #[.int .i64 0, .int .i64 0, .int .i64 0, .int .i64 0, .int .i64 0, .bool false] := by
      have := Blk.new ((w.alloc (.cells #[.int .i64 0, .int .i64 0, .int .i64 0, .int .i64 0, .int .i64 0, .bool false] 23)).drewN (n1 + n2)) 23 #[.int .i64 0, .int .i64 0, .int .i64 0, .int .i64 0, .int .i64 0, .bool false]
      simpa using this
    have hB0 : Below w.heap.size w (((w.alloc (.cells #[.int .i64 0, .int .i64 0, .int .i64 0, .int .i64 0, .int .i64 0, .bool false] 23)).drewN (n1 + n2)).alloc (.cells #[.int .i64 0, .int .i64 0, .int .i64 0, .int .i64 0, .int .i64 0, .bool false] 23)) := (below_drewN ((Below.refl _ _).alloc (Nat.le_refl _) _) _).alloc (by simp) _
    generalize ((w.alloc (.cells #[.int .i64 0, .int .i64 0, .int .i64 0, .int .i64 0, .int .i64 0, .bool false] 23)).drewN (n1 + n2)).alloc (.cells #[.int .i64 0, .int .i64 0, .int .i64 0, .int .i64 0, .int .i64 0, .bool false] 23) = W0 at *
    have hlo : w.heap.size < w.heap.size + 1 := Nat.lt_succ_self _
    generalize w.heap.size + 1 = bn at *
    have EW0 : Env W0 := E.below hB0
    have HB0 := Lib.hid hB0
    clear E1 E0 hB0 C1 C2 C3 n1 n2
    go_upto_region 7 with (go_at_call 17; refine (number_any (S ids) ids rfl L2 _ EW0).mono ?_; rintro e w1 ⟨id, c1, rfl, hid, hid0, hid1, hb1⟩; have HID := Lib.hid hid; clear hid; have k0 : w1.cell? ⟨bn, 0, none⟩ = some (.int .i64 0) := (by simpa using (nn0.below hb1 nn0.lt).cell 0); have f0 : w1.frozen? ⟨bn, 0, none⟩ = false := (nn0.below hb1 nn0.lt).frozen 0)
    have nn1 : Blk (w1.setCell ⟨bn, 0, none⟩ (.int .i64 id)) bn 23 #[.int .i64 id, .int .i64 0, .int .i64 0, .int .i64 0, .int .i64 0, .bool false] := (nn0.below hb1 nn0.lt).set_ 0 _
    have r1 : Blk (w1.setCell ⟨bn, 0, none⟩ (.int .i64 id)) w.heap.size 23 #[.int .i64 0, .int .i64 0, .int .i64 0, .int .i64 0, .int .i64 0, .bool false] := (r0.below hb1 r0.lt).far (by simp; omega) _
    have HB1 : Hid (Below w.heap.size w (w1.setCell ⟨bn, 0, none⟩ (.int .i64 id))) := (HB0.out.trans (hb1.mono HB0.out.size)).setCell (by simp; omega) _
    have E1 : Env (w1.setCell ⟨bn, 0, none⟩ (.int .i64 id)) := E.below HB1.out
    generalize w1.setCell ⟨bn, 0, none⟩ (.int .i64 id) = W1 at *
    clear nn0 r0 k0 f0 hb1 HB0 EW0
    go_upto_region 8 with (go_at_call 18; refine (pdate_any (S dts) dts rfl _ E1).mono ?_; rintro e w2 ⟨day, c2, rfl, hday, hd0, hd1, hb2⟩; have HDAY := Lib.hid hday; clear hday; have k3 : w2.cell? ⟨bn, 3, none⟩ = some (.int .i64 0) := (by simpa using (nn1.below hb2 nn1.lt).cell 3); have f3 : w2.frozen? ⟨bn, 3, none⟩ = false := (nn1.below hb2 nn1.lt).frozen 3)
    have nn2 : Blk (w2.setCell ⟨bn, 3, none⟩ (.int .i64 day)) bn 23 #[.int .i64 id, .int .i64 0, .int .i64 0, .int .i64 day, .int .i64 0, .bool false] := (nn1.below hb2 nn1.lt).set_ 3 _
    have r2 : Blk (w2.setCell ⟨bn, 3, none⟩ (.int .i64 day)) w.heap.size 23 #[.int .i64 0, .int .i64 0, .int .i64 0, .int .i64 0, .int .i64 0, .bool false] := (r1.below hb2 r1.lt).far (by simp; omega) _
    have HB2 : Hid (Below w.heap.size w (w2.setCell ⟨bn, 3, none⟩ (.int .i64 day))) := (HB1.out.trans (hb2.mono HB1.out.size)).setCell (by simp; omega) _
    have E2 : Env (w2.setCell ⟨bn, 3, none⟩ (.int .i64 day)) := E.below HB2.out
    generalize w2.setCell ⟨bn, 3, none⟩ (.int .i64 day) = W2 at *
    have HR2 : Hid (Rl R rest w bn id day 1 W2) := by
      refine ⟨E2, HB2.out, r2, ⟨0, 0, 0, nn2⟩, hlo, ?_⟩
      intro id' loan' kind' day' amt' hi hl ha h
      obtain ⟨y, m, d, hv, hn, ho, _, _, e1, e2, e3⟩ := HC.out id' loan' kind' day' amt' h
      obtain ⟨o1, o2, o3, o4, o5, o6, o7⟩ := ho
      have i1 := (HID.out id'.toNat (by omega) e2).1
      have i2 := (HDAY.out y m d hv e3).1
      exact ⟨by omega, by rw [i2]; exact hn.symm, e1, o3⟩
    clear nn1 r1 k3 f3 hb2 HB1 E1 nn2 r2 HB2 E2
    go_wp2_with fail
    go_loopw [11] (fun v11 wr => ∃ k : Int, 1 ≤ k ∧ k ≤ 10 ∧ v11 = .int .i64 k ∧ Hid (Rl R rest w bn id day k wr)) (fun v11 _ => (10 - intOf v11).toNat)
    case atStart => exact ⟨1, by omega, by omega, rfl, HR2⟩
    case round =>
      obtain ⟨k, hk1, hk2, rfl, HRL⟩ := hrel
      obtain ⟨EK, BK, rK, ⟨v1, v2, v4, nK⟩, lK, HK⟩ := HRL.out
      have HKO := Lib.hid HK
      have HBK := Lib.hid BK
      clear HK HRL BK
      by_cases hlt : k ≤ 9
      · go_wp2_with fail
        refine (sent_any k hk1 hlt _).mono ?_
        rintro e wa ⟨rfl, hba⟩
        have Ea := EK.below hba
        go_wp2_with fail
        refine (fill_any k hk1 hlt rest L1 _ Ea).mono ?_
        rintro e wb ⟨n, x, ok, rfl, hfill, ⟨hn0, hn1⟩, ⟨hx0, hx1⟩, hbb⟩
        have HFILL := Lib.hid hfill
        have hbab := hba.trans (hbb.mono hba.size)
        have Eb := Ea.below hbb
        have nB := nK.below hbab nK.lt
        have rB := rK.below hbab rK.lt
        have HBB : Hid (Below w.heap.size w wb) := HBK.out.trans (hbab.mono HBK.out.size)
        clear hfill hba hbb hbab Ea nK rK EK HBK
        cases ok
        · go_wp2_with fail
          go_roundw
          case rel =>
            refine ⟨k + 1, by omega, by omega, rfl, ⟨Eb, HBB.out, rB, ⟨v1, v2, v4, nB⟩, lK, ?_⟩⟩
            intro id' loan' kind' day' amt' hi hl ha h
            obtain ⟨q1, q2, q3, q4⟩ := HKO.out id' loan' kind' day' amt' hi hl ha h
            refine ⟨q1, q2, q3, ?_⟩
            rcases (show k = kind' ∨ k + 1 ≤ kind' by omega) with e | e
            · subst e
              have := (HFILL.out loan'.toNat amt'.toNat (by omega) (by omega) q3).2.2
              cases this
            · exact e
          case measure => simp [intOf]; omega
        · have g0 : wb.cell? ⟨bn, 0, none⟩ = some (.int .i64 id) := by simpa using nB.cell 0
          have g1 : wb.cell? ⟨bn, 1, none⟩ = some (.int .i64 v1) := by simpa using nB.cell 1
          have g2 : wb.cell? ⟨bn, 2, none⟩ = some (.int .i64 v2) := by simpa using nB.cell 2
          have g3 : wb.cell? ⟨bn, 3, none⟩ = some (.int .i64 day) := by simpa using nB.cell 3
          have g4 : wb.cell? ⟨bn, 4, none⟩ = some (.int .i64 v4) := by simpa using nB.cell 4
          have g5 : wb.cell? ⟨bn, 5, none⟩ = some (.bool false) := by simpa using nB.cell 5
          have f1 := nB.frozen 1
          have f2 := nB.frozen 2
          have f4 := nB.frozen 4
          go_wp2_with fail
          have nC : Blk (((wb.setCell ⟨bn, 2, none⟩ (.int .i64 k)).setCell ⟨bn, 1, none⟩ (.int .i64 n)).setCell ⟨bn, 4, none⟩ (.int .i64 x)) bn 23 #[.int .i64 id, .int .i64 n, .int .i64 k, .int .i64 day, .int .i64 x, .bool false] := ((nB.set_ 2 _).set_ 1 _).set_ 4 _
          have rC : Blk (((wb.setCell ⟨bn, 2, none⟩ (.int .i64 k)).setCell ⟨bn, 1, none⟩ (.int .i64 n)).setCell ⟨bn, 4, none⟩ (.int .i64 x)) w.heap.size 23 #[.int .i64 0, .int .i64 0, .int .i64 0, .int .i64 0, .int .i64 0, .bool false] :=
            ((rB.far (by simp; omega) _).far (by simp; omega) _).far (by simp; omega) _
          have HBC : Hid (Below w.heap.size w (((wb.setCell ⟨bn, 2, none⟩ (.int .i64 k)).setCell ⟨bn, 1, none⟩ (.int .i64 n)).setCell ⟨bn, 4, none⟩ (.int .i64 x))) :=
            ((HBB.out.setCell (by simp; omega) _).setCell (by simp; omega) _).setCell (by simp; omega) _
          have EC := E.below HBC.out
          generalize ((wb.setCell ⟨bn, 2, none⟩ (.int .i64 k)).setCell ⟨bn, 1, none⟩ (.int .i64 n)).setCell ⟨bn, 4, none⟩ (.int .i64 x) = Wc at *
          clear nB rB HBB Eb g0 g1 g2 g3 g4 g5 f1 f2 f4 wb
          refine (letter_any id n k day x false _ EC hid1 hn1 hx1).mono ?_
          rintro e wd ⟨s, b, rfl, hlet, hbd⟩
          have nD := nC.below hbd nC.lt
          have rD := rC.below hbd rC.lt
          have HBD : Hid (Below w.heap.size w wd) := HBC.out.trans (hbd.mono HBC.out.size)
          have ED := E.below HBD.out
          clear nC rC HBC EC hbd
          by_cases hyes : b = true ∧ s = S R
          · obtain ⟨rfl, rfl⟩ := hyes
            have g0 : wd.cell? ⟨bn, 0, none⟩ = some (.int .i64 id) := by simpa using nD.cell 0
            have g1 : wd.cell? ⟨bn, 1, none⟩ = some (.int .i64 n) := by simpa using nD.cell 1
            have g2 : wd.cell? ⟨bn, 2, none⟩ = some (.int .i64 k) := by simpa using nD.cell 2
            have g3 : wd.cell? ⟨bn, 3, none⟩ = some (.int .i64 day) := by simpa using nD.cell 3
            have g4 : wd.cell? ⟨bn, 4, none⟩ = some (.int .i64 x) := by simpa using nD.cell 4
            have g5 : wd.cell? ⟨bn, 5, none⟩ = some (.bool false) := by simpa using nD.cell 5
            have r0 : wd.cell? ⟨w.heap.size, 0, none⟩ = some (.int .i64 0) := by simpa using rD.cell 0
            have r1 : wd.cell? ⟨w.heap.size, 1, none⟩ = some (.int .i64 0) := by simpa using rD.cell 1
            have r2 : wd.cell? ⟨w.heap.size, 2, none⟩ = some (.int .i64 0) := by simpa using rD.cell 2
            have r3 : wd.cell? ⟨w.heap.size, 3, none⟩ = some (.int .i64 0) := by simpa using rD.cell 3
            have r4 : wd.cell? ⟨w.heap.size, 4, none⟩ = some (.int .i64 0) := by simpa using rD.cell 4
            have r5 : wd.cell? ⟨w.heap.size, 5, none⟩ = some (.bool false) := by simpa using rD.cell 5
            have f0 := rD.frozen 0
            have f1 := rD.frozen 1
            have f2 := rD.frozen 2
            have f3 := rD.frozen 3
            have f4 := rD.frozen 4
            have f5 := rD.frozen 5
            have HLET := Lib.hid hlet
            clear hlet
            go_wp2_with fail
            have rE : Blk ((((((wd.setCell ⟨w.heap.size, 0, none⟩ (.int .i64 id)).setCell ⟨w.heap.size, 1, none⟩ (.int .i64 n)).setCell ⟨w.heap.size, 2, none⟩ (.int .i64 k)).setCell ⟨w.heap.size, 3, none⟩ (.int .i64 day)).setCell ⟨w.heap.size, 4, none⟩ (.int .i64 x)).setCell ⟨w.heap.size, 5, none⟩ (.bool false)) w.heap.size 23 #[.int .i64 id, .int .i64 n, .int .i64 k, .int .i64 day, .int .i64 x, .bool false] :=
              (((((rD.set_ 0 _).set_ 1 _).set_ 2 _).set_ 3 _).set_ 4 _).set_ 5 _
            have HBE : Hid (Below w.heap.size w ((((((wd.setCell ⟨w.heap.size, 0, none⟩ (.int .i64 id)).setCell ⟨w.heap.size, 1, none⟩ (.int .i64 n)).setCell ⟨w.heap.size, 2, none⟩ (.int .i64 k)).setCell ⟨w.heap.size, 3, none⟩ (.int .i64 day)).setCell ⟨w.heap.size, 4, none⟩ (.int .i64 x)).setCell ⟨w.heap.size, 5, none⟩ (.bool false))) :=
              (((((HBD.out.setCell (Nat.le_refl _) _).setCell (Nat.le_refl _) _).setCell (Nat.le_refl _) _).setCell (Nat.le_refl _) _).setCell (Nat.le_refl _) _).setCell (Nat.le_refl _) _
            generalize (((((wd.setCell ⟨w.heap.size, 0, none⟩ (.int .i64 id)).setCell ⟨w.heap.size, 1, none⟩ (.int .i64 n)).setCell ⟨w.heap.size, 2, none⟩ (.int .i64 k)).setCell ⟨w.heap.size, 3, none⟩ (.int .i64 day)).setCell ⟨w.heap.size, 4, none⟩ (.int .i64 x)).setCell ⟨w.heap.size, 5, none⟩ (.bool false) = We at *
            have q0 : We.cell? ⟨w.heap.size, 0, none⟩ = some (.int .i64 id) := by simpa using rE.cell 0
            have q1 : We.cell? ⟨w.heap.size, 1, none⟩ = some (.int .i64 n) := by simpa using rE.cell 1
            have q2 : We.cell? ⟨w.heap.size, 2, none⟩ = some (.int .i64 k) := by simpa using rE.cell 2
            have q3 : We.cell? ⟨w.heap.size, 3, none⟩ = some (.int .i64 day) := by simpa using rE.cell 3
            have q4 : We.cell? ⟨w.heap.size, 4, none⟩ = some (.int .i64 x) := by simpa using rE.cell 4
            have q5 : We.cell? ⟨w.heap.size, 5, none⟩ = some (.bool false) := by simpa using rE.cell 5
            exact bodyPost_ret (v := .tuple #[.agg #[.int .i64 id, .int .i64 n, .int .i64 k, .int .i64 day, .int .i64 x, .bool false], .bool true]) (by simp [results, Tryd.results6, go_sem, q0, q1, q2, q3, q4, q5]) rfl
              ⟨id, n, k, day, x, true, rfl, .inl ⟨rfl, HLET.out⟩, ⟨by omega, by omega, by omega⟩, HBE.out⟩
          · have hno : Hid (∀ id' loan' kind' day' amt' : Int, id' ≤ 9223372036854775807 → loan' ≤ 9223372036854775807 → amt' ≤ 9223372036854775807 → LetIs id' loan' kind' day' amt' (S R) true → id' = id ∧ day' = day ∧ rest = Let.sent kind' loan'.toNat amt'.toNat ∧ k + 1 ≤ kind') := by
              intro id' loan' kind' day' amt' hi hl ha h
              obtain ⟨q1, q2, q3, q4⟩ := HKO.out id' loan' kind' day' amt' hi hl ha h
              refine ⟨q1, q2, q3, ?_⟩
              rcases (show k = kind' ∨ k + 1 ≤ kind' by omega) with e | e
              · subst e
                have hok : Okay id' loan' k day' amt' := by
                  rcases h with ⟨_, _, _, _, _, ho, _⟩ | ⟨_, _, hb⟩
                  · exact ho
                  · cases hb
                obtain ⟨o1, o2, o3, o4, o5, o6, o7⟩ := hok
                have f := HFILL.out loan'.toNat amt'.toNat (by omega) (by omega) q3
                have e1 : n = loan' := by omega
                have e2 : x = amt' := by omega
                subst q1 q2 e1 e2
                obtain ⟨r1, r2⟩ := letIs_one hlet h
                exact absurd ⟨r2, r1⟩ hyes
              · exact e
            clear hlet
            cases b
            · go_wp2_with fail
              go_roundw
              case rel => exact ⟨k + 1, by omega, by omega, rfl, ⟨ED, HBD.out, rD, ⟨n, k, x, nD⟩, lK, hno⟩⟩
              case measure => simp [intOf]; omega
            · have hne : (s.toList == (S R).toList) = false := by
                rw [beq_eq_false_iff_ne]
                intro e
                exact hyes ⟨rfl, toList_inj e⟩
              go_wp2_with fail
              go_roundw
              case rel => exact ⟨k + 1, by omega, by omega, rfl, ⟨ED, HBD.out, rD, ⟨n, k, x, nD⟩, lK, hno⟩⟩
              case measure => simp [intOf]; omega
      · obtain rfl : k = 10 := by omega
        have r0 : wr.cell? ⟨w.heap.size, 0, none⟩ = some (.int .i64 0) := by simpa using rK.cell 0
        have r1 : wr.cell? ⟨w.heap.size, 1, none⟩ = some (.int .i64 0) := by simpa using rK.cell 1
        have r2 : wr.cell? ⟨w.heap.size, 2, none⟩ = some (.int .i64 0) := by simpa using rK.cell 2
        have r3 : wr.cell? ⟨w.heap.size, 3, none⟩ = some (.int .i64 0) := by simpa using rK.cell 3
        have r4 : wr.cell? ⟨w.heap.size, 4, none⟩ = some (.int .i64 0) := by simpa using rK.cell 4
        have r5 : wr.cell? ⟨w.heap.size, 5, none⟩ = some (.bool false) := by simpa using rK.cell 5
        have f0 := rK.frozen 0
        have f1 := rK.frozen 1
        have f2 := rK.frozen 2
        have f3 := rK.frozen 3
        have f4 := rK.frozen 4
        have f5 := rK.frozen 5
        go_wp2_with fail
        have rE : Blk ((((((wr.setCell ⟨w.heap.size, 0, none⟩ (.int .i64 0)).setCell ⟨w.heap.size, 1, none⟩ (.int .i64 0)).setCell ⟨w.heap.size, 2, none⟩ (.int .i64 0)).setCell ⟨w.heap.size, 3, none⟩ (.int .i64 0)).setCell ⟨w.heap.size, 4, none⟩ (.int .i64 0)).setCell ⟨w.heap.size, 5, none⟩ (.bool false)) w.heap.size 23 #[.int .i64 0, .int .i64 0, .int .i64 0, .int .i64 0, .int .i64 0, .bool false] :=
          (((((rK.set_ 0 _).set_ 1 _).set_ 2 _).set_ 3 _).set_ 4 _).set_ 5 _
        have HBE : Hid (Below w.heap.size w ((((((wr.setCell ⟨w.heap.size, 0, none⟩ (.int .i64 0)).setCell ⟨w.heap.size, 1, none⟩ (.int .i64 0)).setCell ⟨w.heap.size, 2, none⟩ (.int .i64 0)).setCell ⟨w.heap.size, 3, none⟩ (.int .i64 0)).setCell ⟨w.heap.size, 4, none⟩ (.int .i64 0)).setCell ⟨w.heap.size, 5, none⟩ (.bool false))) :=
          (((((HBK.out.setCell (Nat.le_refl _) _).setCell (Nat.le_refl _) _).setCell (Nat.le_refl _) _).setCell (Nat.le_refl _) _).setCell (Nat.le_refl _) _).setCell (Nat.le_refl _) _
        generalize (((((wr.setCell ⟨w.heap.size, 0, none⟩ (.int .i64 0)).setCell ⟨w.heap.size, 1, none⟩ (.int .i64 0)).setCell ⟨w.heap.size, 2, none⟩ (.int .i64 0)).setCell ⟨w.heap.size, 3, none⟩ (.int .i64 0)).setCell ⟨w.heap.size, 4, none⟩ (.int .i64 0)).setCell ⟨w.heap.size, 5, none⟩ (.bool false) = We at *
        have q0 : We.cell? ⟨w.heap.size, 0, none⟩ = some (.int .i64 0) := by simpa using rE.cell 0
        have q1 : We.cell? ⟨w.heap.size, 1, none⟩ = some (.int .i64 0) := by simpa using rE.cell 1
        have q2 : We.cell? ⟨w.heap.size, 2, none⟩ = some (.int .i64 0) := by simpa using rE.cell 2
        have q3 : We.cell? ⟨w.heap.size, 3, none⟩ = some (.int .i64 0) := by simpa using rE.cell 3
        have q4 : We.cell? ⟨w.heap.size, 4, none⟩ = some (.int .i64 0) := by simpa using rE.cell 4
        have q5 : We.cell? ⟨w.heap.size, 5, none⟩ = some (.bool false) := by simpa using rE.cell 5
        refine bodyPost_ret (v := .tuple #[.agg #[.int .i64 0, .int .i64 0, .int .i64 0, .int .i64 0, .int .i64 0, .bool false], .bool false]) (by simp [results, Tryd.results6, go_sem, q0, q1, q2, q3, q4, q5]) rfl
          ⟨0, 0, 0, 0, 0, false, rfl, .inr ⟨rfl, ⟨rfl, rfl, rfl, rfl, rfl⟩, ?_⟩, ⟨by omega, by omega, by omega⟩, HBE.out⟩
        intro id' loan' kind' day' amt' hi hl ha h
        have q := (HKO.out id' loan' kind' day' amt' hi hl ha h).2.2.2
        rcases h with ⟨_, _, _, _, _, ho, _⟩ | ⟨_, _, hb⟩
        · have := ho.2.2.2.1; omega
        · cases hb
  · have hno : Hid (∀ id loan kind day amt : Int, LetIs id loan kind day amt (S R) true → False) := by
      intro id loan kind day amt h
      obtain ⟨_, _, _, _, _, _, h1, h2, _⟩ := HC.out id loan kind day amt h
      exact hb ⟨h1, h2⟩
    exact rlet_early R head rest h2 ids dts b1 b2 w E hb hno C1 C2 C3
end Go.Proofs.YtojjemokejmcjaaDoor.RL
