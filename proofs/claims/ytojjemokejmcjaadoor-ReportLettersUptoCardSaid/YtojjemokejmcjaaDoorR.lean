/- The reference's Letter; letters are of one notice. -/
import Derived.Test.YtojjemokejmcjaaDoorQ
namespace Go.Proofs.YtojjemokejmcjaaDoor.RL
open Go.RowKit Go.Sort Arr

theorem fdateR_s (n : Int) (w : World) (E : Env w) (h1 : 1 ≤ n) (h2 : n ≤ 3652059) :
    Calls Tryd.prog 12 #[.int .i64 n] w fun e w' => ∃ (y m d : Int) (s : ByteArray), e = .returned (.tuple #[.string s, .bool true]) ∧ Hid (s = dateS y m d ∧ Cal.Valid y m d ∧ Cal.num y m d = n) ∧ s.size ≤ 10 ∧ Below w.heap.size w w' := by
  refine (fdateR_in n w E h1 h2).mono fun e w' ⟨y, m, d, he, hv, hn, hb⟩ => ⟨y, m, d, _, he, ⟨rfl, hv, hn⟩, ?_, hb⟩
  unfold dateS; rw [date_list]; exact Nat.le_refl _
theorem fmtR_s (x : Int) (h0 : 0 ≤ x) (h1 : x ≤ 9223372036854775807) (w : World) (E : Env w) :
    Calls Tryd.prog 14 #[.int .i64 x] w fun e w' => ∃ s, e = .returned (.string s) ∧ Hid (s = S (Let.amt x.toNat)) ∧ s.size ≤ 23 ∧ Below w.heap.size w w' := by
  refine (fmtR_any x (by omega) h1 w E).mono fun e w' ⟨he, hb⟩ => ⟨_, he, ?_, ?_, hb⟩
  · show _ = _
    unfold fmtS; rw [if_neg (by omega), show x.natAbs = x.toNat by omega]; rfl
  · rw [S_size]; unfold fmtS; rw [if_neg (by omega), show x.natAbs = x.toNat by omega]; exact amt_len _ (by omega)

theorem sentR_s (k : Int) (h1 : 1 ≤ k) (h2 : k ≤ 9) (a b : List UInt8) (s1 s2 : ByteArray) (ha : s1 = S a) (hb : s2 = S b) (l1 : s1.size ≤ 20) (l2 : s2.size ≤ 23) (w : World) :
    Calls Tryd.prog 13 #[.int .i64 k, .string s1, .string s2] w fun e w' => ∃ s, e = .returned (.string s) ∧ Hid (s = S (sentT k a b)) ∧ s.size ≤ 200 ∧ w = w' := by
  subst ha hb
  refine (sentR_any k h1 h2 a b (by omega) (by omega) w).mono fun e w' ⟨s, he, hs, hw⟩ => ⟨s, he, hs, ?_, hw⟩
  have e1 : s = S (sentT k a b) := hs.out
  rw [e1, S_size]
  rw [S_size] at l1 l2
  have := sentT_len k h1 h2 a b
  omega

set_option maxRecDepth 100000 in
set_option maxHeartbeats 4000000 in
theorem letterR_bad (id loan kind day amt : Int) (ak : Bool) (w : World) (E : Env w) (h : ¬ Okay id loan kind day amt) :
    Calls Tryd.prog 5 #[.agg #[.int .i64 id, .int .i64 loan, .int .i64 kind, .int .i64 day, .int .i64 amt, .bool ak]] w (LePost id loan kind day amt w) := by
  have hE : ∀ o, Env (w.alloc o) := fun o => E.below ((Below.refl _ _).alloc (Nat.le_refl _) _)
  by_cases hd : 1 ≤ day ∧ day ≤ 3652059
  · have hbad : id < 1 ∨ loan < 1 ∨ amt < 0 ∨ kind < 1 ∨ 9 < kind := by
      unfold Okay at h; omega
    obtain ⟨hd1, hd2⟩ := hd
    have HB := Lib.hid h
    clear h
    go_enter Tryd.func5, Tryd.ntmps5
    go_wp2_with (go_at_call 12; refine (fdateR_s day _ (hE _) hd1 hd2).mono ?_; rintro e w1 ⟨y, m, d, s, rfl, hs, hsz, hb⟩; obtain ⟨hc, hf⟩ := bcell hb)
    all_goals go_ret2
    all_goals exact ⟨_, _, rfl, .inr ⟨HB.out, rfl, rfl⟩, ((Below.refl _ _).alloc (Nat.le_refl _) _).trans (hb.mono (by simp))⟩
  · have HB := Lib.hid h
    clear h
    go_enter Tryd.func5, Tryd.ntmps5
    go_wp2_with (go_at_call 12; refine (fdateR_out day _ hd).mono ?_; rintro e w1 ⟨rfl, hb⟩)
    go_ret2
    exact ⟨_, _, rfl, .inr ⟨HB.out, rfl, rfl⟩, ((Below.refl _ _).alloc (Nat.le_refl _) _).trans (hb.mono (by simp))⟩

set_option maxRecDepth 100000 in
set_option maxHeartbeats 8000000 in
theorem letterR_ok (id loan kind day amt : Int) (ak : Bool) (w : World) (E : Env w) (h : Okay id loan kind day amt)
    (hid : id ≤ 9223372036854775807) (hloan : loan ≤ 9223372036854775807) (hamt : amt ≤ 9223372036854775807) :
    Calls Tryd.prog 5 #[.agg #[.int .i64 id, .int .i64 loan, .int .i64 kind, .int .i64 day, .int .i64 amt, .bool ak]] w (LePost id loan kind day amt w) := by
  have hE : ∀ o, Env (w.alloc o) := fun o => E.below ((Below.refl _ _).alloc (Nat.le_refl _) _)
  have HO := Lib.hid h
  obtain ⟨k1, k2, k3, k4, k5, k6, k7⟩ := h
  go_enter Tryd.func5, Tryd.ntmps5
  go_upto_region 4 with (first
    | (go_at_call 12; refine (fdateR_s day _ (hE _) k5 k6).mono ?_; rintro e w1 ⟨y, m, d, dt, rfl, hs, hsz, hb⟩; obtain ⟨hc, hf⟩ := bcell hb))
  have hlt1 : w.heap.size < w1.heap.size := by have := hb.size; simp at this; omega
  have hcell : ∀ (o : Nat) (v : Value), (w.alloc (.cells #[.int .i64 id, .int .i64 loan, .int .i64 kind, .int .i64 day, .int .i64 amt, .bool ak] 23)).cell? ⟨w.heap.size, o, none⟩ = some v →
      w1.cell? ⟨w.heap.size, o, none⟩ = some v := fun o v hv => by rw [hc _ _ (by simp)]; exact hv
  have c0 := hcell 0 (.int .i64 id) (by simp [World.cell?_alloc_new])
  have c1 := hcell 1 (.int .i64 loan) (by simp [World.cell?_alloc_new])
  have c2 := hcell 2 (.int .i64 kind) (by simp [World.cell?_alloc_new])
  have c4 := hcell 4 (.int .i64 amt) (by simp [World.cell?_alloc_new])
  have HB1 : Hid (Below w.heap.size w w1) := ((Below.refl _ _).alloc (Nat.le_refl _) _).trans (hb.mono (by simp))
  have E1 : Env w1 := E.below HB1.out
  clear hcell hb hc hf hE
  generalize hbN : w.heap.size = bN at c0 c1 c2 c4 hlt1 ⊢
  clear hbN
  go_upto_region 5 with (go_at_call 10; refine (itoa_s id k1 hid _ E1).mono ?_; rintro e w2 ⟨s3, rfl, e3, l3, hb3⟩; have q1 : ¬ 9223372036854775807 < 7 + s3.size := (by omega); have q2 : ¬ 9223372036854775807 < 7 + s3.size + 4 := (by omega); have q3 : ¬ 9223372036854775807 < 7 + s3.size + 4 + dt.size := (by omega); have q4 : ¬ 9223372036854775807 < 7 + s3.size + 4 + dt.size + 2 := (by omega))
  have E2 : Env w2 := E1.below hb3
  have x1 : w2.cell? ⟨bN, 1, none⟩ = some (.int .i64 loan) := by rw [hb3.cell (p := ⟨bN, 1, none⟩) hlt1]; exact c1
  have x2 : w2.cell? ⟨bN, 2, none⟩ = some (.int .i64 kind) := by rw [hb3.cell (p := ⟨bN, 2, none⟩) hlt1]; exact c2
  have x4 : w2.cell? ⟨bN, 4, none⟩ = some (.int .i64 amt) := by rw [hb3.cell (p := ⟨bN, 4, none⟩) hlt1]; exact c4
  have hlt2 : bN < w2.heap.size := Nat.lt_of_lt_of_le hlt1 hb3.size
  clear c0 c1 c2 c4
  go_region_held3 (fun W => W.cell? ⟨bN, 1, none⟩ = some (.int .i64 loan) ∧ W.cell? ⟨bN, 2, none⟩ = some (.int .i64 kind) ∧ W.cell? ⟨bN, 4, none⟩ = some (.int .i64 amt) ∧ From w2 W)
    (first | exact ⟨x1, x2, x4, From.drew0 E2⟩ | assumption | (have hF := From.step' (by assumption) (And.right (And.right (And.right (by assumption)))); exact ⟨hF.cell hlt2 x1, hF.cell hlt2 x2, hF.cell hlt2 x4, hF⟩))
    (first
      | (go_at_call 10; refine (itoa_s loan k2 hloan _ (From.env (And.right (And.right (And.right (by assumption)))))).mono ?_; rintro e w' ⟨s1, rfl, e1, l1, hb1⟩)
      | (go_at_call 14; refine (fmtR_s amt k7 hamt _ (From.env (And.right (And.right (And.right (by assumption)))))).mono ?_; rintro e w' ⟨s2, rfl, e2, l2, hb2⟩)
      | (go_at_call 13; refine (sentR_s kind k3 k4 _ _ _ _ e1.out e2.out l1 l2 _).mono ?_; rintro e w' ⟨s4, rfl, e4, l4, rfl⟩; have q5 : ¬ 9223372036854775807 < 7 + s3.size + 4 + dt.size + 2 + s4.size := by omega))
  go_wp2_with fail
  go_ret2
  have hG : From w2 _ := And.right (And.right (And.right (by assumption)))
  refine ⟨_, _, rfl, .inl ⟨y, m, d, hs.out.2.1, hs.out.2.2, HO.out, ?_, rfl⟩, HB1.out.trans ((hb3.trans (hG.below.mono hb3.size)).mono HB1.out.size)⟩
  have r3 : s3 = S (Lib.decDigits id.toNat) := e3.out
  have r4 : dt = S (Let.date y.toNat m.toNat d.toNat) := hs.out.1
  have r5 : s4 = S (sentT kind (Lib.decDigits loan.toNat) (Let.amt amt.toNat)) := e4.out
  unfold Let.letter
  rw [← sentT_eq, r3, r4, r5]
  apply ByteArray.ext
  simp [S, Let.pN, Let.pOf, Let.pCol]

theorem letter_any (id loan kind day amt : Int) (ak : Bool) (w : World) (E : Env w)
    (hid : id ≤ 9223372036854775807) (hloan : loan ≤ 9223372036854775807) (hamt : amt ≤ 9223372036854775807) :
    Calls Tryd.prog 4 #[.agg #[.int .i64 id, .int .i64 loan, .int .i64 kind, .int .i64 day, .int .i64 amt, .bool ak]] w (LePost id loan kind day amt w) := by
  by_cases h : Okay id loan kind day amt
  · exact letter_ok id loan kind day amt ak w E h hid hloan hamt
  · exact letter_bad id loan kind day amt ak w E h
theorem letterR_any (id loan kind day amt : Int) (ak : Bool) (w : World) (E : Env w)
    (hid : id ≤ 9223372036854775807) (hloan : loan ≤ 9223372036854775807) (hamt : amt ≤ 9223372036854775807) :
    Calls Tryd.prog 5 #[.agg #[.int .i64 id, .int .i64 loan, .int .i64 kind, .int .i64 day, .int .i64 amt, .bool ak]] w (LePost id loan kind day amt w) := by
  by_cases h : Okay id loan kind day amt
  · exact letterR_ok id loan kind day amt ak w E h hid hloan hamt
  · exact letterR_bad id loan kind day amt ak w E h

theorem letIs_one {id loan kind day amt : Int} {s s' : ByteArray} {b b' : Bool} (h : LetIs id loan kind day amt s b) (h' : LetIs id loan kind day amt s' b') : s = s' ∧ b = b' := by
  rcases h with ⟨y, m, d, hv, hn, ho, rfl, rfl⟩ | ⟨ho, rfl, rfl⟩ <;> rcases h' with ⟨y', m', d', hv', hn', ho', rfl, rfl⟩ | ⟨ho', rfl, rfl⟩
  · obtain ⟨rfl, rfl, rfl⟩ := Cal.num_inj hv hv' (hn.trans hn'.symm)
    exact ⟨rfl, rfl⟩
  · exact absurd ho ho'
  · exact absurd ho' ho
  · exact ⟨rfl, rfl⟩
theorem S_inj {a b : List UInt8} (h : S a = S b) : a = b := by
  have := congrArg (fun x : ByteArray => x.data.toList) h
  simpa [S] using this
/-- Two notices of one letter are one. -/
theorem letIs_inj {id loan kind day amt id' loan' kind' day' amt' : Int} {s : ByteArray} (h : LetIs id loan kind day amt s true) (h' : LetIs id' loan' kind' day' amt' s true) :
    id = id' ∧ loan = loan' ∧ kind = kind' ∧ day = day' ∧ amt = amt' := by
  rcases h with ⟨y, m, d, hv, hn, ho, hs, _⟩ | ⟨_, _, hb⟩
  · rcases h' with ⟨y', m', d', hv', hn', ho', hs', _⟩ | ⟨_, _, hb⟩
    · obtain ⟨a1, a2, a3, a4, a5, a6⟩ := hv
      obtain ⟨b1, b2, b3, b4, b5, b6⟩ := hv'
      have a7 := Cal.ml_range y m a3 a4
      have b7 := Cal.ml_range y' m' b3 b4
      obtain ⟨o1, o2, o3, o4, o5, o6, o7⟩ := ho
      obtain ⟨p1, p2, p3, p4, p5, p6, p7⟩ := ho'
      have e := S_inj (hs.symm.trans hs')
      obtain ⟨e1, e2, e3, e4, e5, e6, e7⟩ := Let.letter_inj o3 o4 p3 p4 (by omega) (by omega) (by omega) (by omega) (by omega) (by omega) e
      obtain rfl : y = y' := by omega
      obtain rfl : m = m' := by omega
      obtain rfl : d = d' := by omega
      exact ⟨by omega, by omega, e5, hn.symm.trans hn', by omega⟩
    · cases hb
  · cases hb
end Go.Proofs.YtojjemokejmcjaaDoor.RL
