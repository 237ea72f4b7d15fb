/- money.Format: an amount as a text, laid byte by byte. -/
import Derived.Test.YtojjemokejmcjaaDoorF
import Derived.Deep.AppendLies
namespace Go.Proofs.YtojjemokejmcjaaDoor.RL
open Go.RowKit Go.Sort Arr

theorem au0_any (B n u : Nat) (hu64 : u < 18446744073709551616) (sv : Value) (xs : List Value) (w : World) (hown : w.ownsRow B 5 1 sv n xs) (hBw : B ≤ w.heap.size) (hlim : n + 20 ≤ 140737488355328) (E : Env w) :
    Calls Tryd.prog 46 #[sv, .int .u64 u, .int .i64 10] w fun e w' => ∃ v', e = .returned v' ∧ w'.ownsRow B 5 1 v' (n + (Lib.decDigits u).length) (xs ++ Lib.byteCells (Lib.decDigits u)) ∧ Below B w w' := by
  by_cases h : u < 100
  · exact (Tryd.internal_strconv_AppendUint_10_small B n u h sv xs w hown hBw hlim).mono fun e w' ⟨v', a, b, c, _⟩ => ⟨v', a, b, c⟩
  · exact (Tryd.internal_strconv_AppendUint_10_big B n u (by omega) hu64 sv xs w hown hBw hlim E.pow).mono fun e w' ⟨v', a, b, c, _⟩ => ⟨v', a, b, c⟩

theorem au_any (B n u : Nat) (x : Int) (hx : x = u) (hu64 : u < 18446744073709551616) (sv : Value) (xs : List Value) (w : World) (hown : w.ownsRow B 5 1 sv n xs) (hBw : B ≤ w.heap.size) (hlim : n + 20 ≤ 140737488355328) (E : Env w) :
    Calls Tryd.prog 27 #[sv, .int .u64 x, .int .i64 10] w fun e w' => ∃ v', e = .returned v' ∧ w'.ownsRow B 5 1 v' (n + (Lib.decDigits u).length) (xs ++ Lib.byteCells (Lib.decDigits u)) ∧ Below B w w' := by
  subst hx
  have C := au0_any B n u hu64 sv xs w hown hBw hlim E
  go_enter Tryd.func27, Tryd.ntmps27
  go_wp2_with (go_at_call 46; refine C.mono ?_; rintro e w' ⟨v', rfl, ho, hb⟩)
  go_ret
  exact ⟨v', rfl, ho, hb⟩

theorem info5 : (Tryd.prog.info? 5).map (fun i => (i.zero, i.size, i.bytes)) = some (some (.int .u8 0), 1, 1) := by kernel_rfl

/-- What a slice of bytes of the call's own reads as a string. -/
theorem conv_own {B n : Nat} {v : Value} {l : List UInt8} {w : World} (h : w.ownsRow B 5 1 v n (Lib.byteCells l)) (hn : 0 < n) :
    ∃ g cap, v = .slice (some ⟨g, 0, none⟩) n cap ∧ (convert 50 9 (.slice (some ⟨g, 0, none⟩) n cap)).run Tryd.prog w = .ok (.string (S l)) w := by
  obtain ⟨g, cap, hv, _, hlt⟩ := h.form hn
  subst hv
  have hl : l.length = n := by have := h.1; simpa [Lib.byteCells] using this
  refine ⟨g, cap, rfl, ?_⟩
  have hc := run_convert_bytes_back (P := Tryd.prog) w 50 9 5 ⟨g, 0, none⟩ cap l Tryd.underlying50 Tryd.underlying5 Tryd.underlying9 (fun j hj => by
    refine h.cells (g := g) rfl j _ ?_
    simp [Lib.byteCells, List.getElem?_eq_getElem hj])
  rw [hl] at hc
  exact hc

theorem three_new (w : World) (a b c : Value) : ∀ (j : Nat) (u : Value), [a, b, c][j]? = some u → (w.alloc (.cells #[a, b, c] 5)).cell? ((⟨w.heap.size, 0, none⟩ : Addr).add j) = some u := by
  intro j u h
  rw [Lib.add_plain, World.cell?_alloc_new]
  simpa using h
theorem one_new (w : World) (a : Value) : ∀ (j : Nat) (u : Value), [a][j]? = some u → (w.alloc (.cells #[a] 5)).cell? ((⟨w.heap.size, 0, none⟩ : Addr).add j) = some u := by
  intro j u h
  rw [Lib.add_plain, World.cell?_alloc_new]
  simpa using h
theorem tail_bytes (u : Nat) : [Value.int .u8 46, .int .u8 (48 + (u : Int) % 100 / 10), .int .u8 (48 + (u : Int) % 10)] = Lib.byteCells ([46] ++ Let.cents (u % 100)) := by
  have a : ((UInt8.ofNat (48 + u % 100 / 10 % 10)).toNat : Int) = 48 + (u : Int) % 100 / 10 := by
    have : (UInt8.ofNat (48 + u % 100 / 10 % 10)).toNat = 48 + u % 100 / 10 % 10 := by simp; omega
    rw [this]; omega
  have b : ((UInt8.ofNat (48 + u % 100 % 10)).toNat : Int) = 48 + (u : Int) % 10 := by
    have : (UInt8.ofNat (48 + u % 100 % 10)).toNat = 48 + u % 100 % 10 := by simp; omega
    rw [this]; omega
  simp only [Lib.byteCells, Let.cents, Let.pad, List.nil_append, List.cons_append, List.map_cons, List.map_nil, a, b]
  rfl
theorem byteCells_app (a b : List UInt8) : Lib.byteCells (a ++ b) = Lib.byteCells a ++ Lib.byteCells b := by simp [Lib.byteCells]
theorem byteCells_one {l : List UInt8} : ∀ v ∈ Lib.byteCells l, v.oneCell' = true := by
  intro v hv; simp only [Lib.byteCells, List.mem_map] at hv; obtain ⟨b, _, rfl⟩ := hv; rfl

set_option maxRecDepth 100000 in
set_option maxHeartbeats 4000000 in
theorem fmt_pos (x : Int) (h0 : 0 ≤ x) (h1 : x ≤ 9223372036854775807) (w : World) (E : Env w) :
    Calls Tryd.prog 11 #[.int .i64 x] w fun e w' => e = .returned (.string (S (fmtS x))) ∧ Below w.heap.size w w' := by
  obtain ⟨i0, hi0, hz0, hz1, hz2⟩ := info_parts info5
  have hn : (x.natAbs : Int) ≤ 9223372036854775808 := by omega
  generalize hu : x.natAbs = u at hn
  have HU := Lib.hid hu
  have M := magn_any x (by omega) h1 w
  rw [hu] at M
  clear hu
  have hneg : decide (x < 0) = false := by simp; omega
  have hl := dec_len (u / 100) (by omega)
  go_enter Tryd.func11, Tryd.ntmps11
  go_wp2_with (first
    | (go_at_call 26; refine M.mono ?_; rintro e w' ⟨rfl, rfl⟩)
    | (at_make; refine wpList_make_own _ rfl _ _ _ rfl w.heap.size 5 i0 _ 1 Tryd.underlying50 hi0 hz0 hz1 _ _ _ 24 rfl rfl rfl (by rw [hz2]; omega) (by unfold maxLen; omega) (Nat.le_refl _) ?_; intro w1 ho1 hg1))
  have hb1 : Below w.heap.size w w1 := (Below.refl _ _).grown hg1 (Nat.le_refl _) (by simp)
  refine (au_any w.heap.size 0 (u / 100) _ (by omega) (by omega) _ [] _ ho1 hb1.size (by omega) (E.below hb1)).mono ?_
  rintro e w2 ⟨v2, rfl, ho2, hb2⟩
  have hb12 : Below w.heap.size w w2 := hb1.trans hb2
  go_wp2_with (at_builtin; refine wpList_append_own _ rfl (.tmp 21) (.tmp 28) 50 rfl w.heap.size 5 i0 _ 1 1 Tryd.underlying50 hi0 hz0 hz1 hz2 rfl (by omega) v2 _ _ rfl (ho2.alloc _) ⟨w2.heap.size, 0, none⟩ 3 3 [.int .u8 46, .int .u8 (48 + (u : Int) % 100 / 10), .int .u8 (48 + (u : Int) % 10)] rfl rfl (by exact three_new _ _ _ _) (by simp [Value.oneCell']) (by unfold maxLen; omega) (by omega) (by have := hb12.size; simp; omega) ?_; intro v3 w3 ho3 hg3 _)
  rw [tail_bytes, List.nil_append, ← byteCells_app] at ho3
  obtain ⟨g, cap, hv3, hcv⟩ := conv_own ho3 (by omega)
  have hb3 : Below w.heap.size w w3 := by
    refine (hb12.alloc hb12.size _).grown hg3 (by have := hb12.size; simp; omega) (fun k hk => ?_)
    exact (ho2.lt k hk).1
  subst hv3
  generalize 0 + (Lib.decDigits (u / 100)).length + 3 = N at *
  go_wp2
  rw [hcv]
  go_wp2
  go_ret
  refine ⟨ret_str ?_, hb3⟩
  unfold fmtS
  rw [HU.out, if_neg (by omega)]; rfl
set_option maxRecDepth 100000 in
set_option maxHeartbeats 4000000 in
theorem fmt_neg (x : Int) (h0 : x < 0) (h1 : -9223372036854775808 ≤ x) (w : World) (E : Env w) :
    Calls Tryd.prog 11 #[.int .i64 x] w fun e w' => e = .returned (.string (S (fmtS x))) ∧ Below w.heap.size w w' := by
  obtain ⟨i0, hi0, hz0, hz1, hz2⟩ := info_parts info5
  have hn : (x.natAbs : Int) ≤ 9223372036854775808 := by omega
  generalize hu : x.natAbs = u at hn
  have HU := Lib.hid hu
  have M := magn_any x h1 (by omega) w
  rw [hu] at M
  clear hu
  have hneg : decide (x < 0) = true := by simpa using h0
  have hl := dec_len (u / 100) (by omega)
  go_enter Tryd.func11, Tryd.ntmps11
  go_wp2_with (first
    | (go_at_call 26; refine M.mono ?_; rintro e w' ⟨rfl, rfl⟩)
    | (at_make; refine wpList_make_own _ rfl _ _ _ rfl w.heap.size 5 i0 _ 1 Tryd.underlying50 hi0 hz0 hz1 _ _ _ 24 rfl rfl rfl (by rw [hz2]; omega) (by unfold maxLen; omega) (Nat.le_refl _) ?_; intro w1 ho1 hg1)
    | (at_builtin; refine wpList_append_own _ rfl (.tmp 11) (.tmp 12) 50 rfl w.heap.size 5 i0 _ 1 1 Tryd.underlying50 hi0 hz0 hz1 hz2 rfl (by omega) (.slice (some ⟨w.heap.size, 0, none⟩) 0 24) 0 [] rfl (ho1.alloc _) ⟨w1.heap.size, 0, none⟩ 1 1 [.int .u8 45] rfl rfl (by exact one_new _ _) (by simp [Value.oneCell']) (by unfold maxLen; omega) (by omega) (by have := hg1.size; simp; omega) ?_; intro v1 w1' ho1' hg1' _))
  have hb1 : Below w.heap.size w w1 := (Below.refl _ _).grown hg1 (Nat.le_refl _) (by simp)
  have hb1' : Below w.heap.size w w1' := (hb1.alloc hb1.size _).grown hg1' (by have := hb1.size; simp; omega) (fun k hk => (ho1.lt k hk).1)
  refine (au_any w.heap.size 1 (u / 100) _ (by omega) (by omega) _ [.int .u8 45] _ ho1' hb1'.size (by omega) (E.below hb1')).mono ?_
  rintro e w2 ⟨v2, rfl, ho2, hb2⟩
  have hb12 : Below w.heap.size w w2 := hb1'.trans hb2
  go_wp2_with (at_builtin; refine wpList_append_own _ rfl (.tmp 21) (.tmp 28) 50 rfl w.heap.size 5 i0 _ 1 1 Tryd.underlying50 hi0 hz0 hz1 hz2 rfl (by omega) v2 _ _ rfl (ho2.alloc _) ⟨w2.heap.size, 0, none⟩ 3 3 [.int .u8 46, .int .u8 (48 + (u : Int) % 100 / 10), .int .u8 (48 + (u : Int) % 10)] rfl rfl (by exact three_new _ _ _ _) (by simp [Value.oneCell']) (by unfold maxLen; omega) (by omega) (by have := hb12.size; simp; omega) ?_; intro v3 w3 ho3 hg3 _)
  rw [tail_bytes, show ([.int .u8 45] : List Value) = Lib.byteCells [45] from rfl, ← byteCells_app, ← byteCells_app] at ho3
  obtain ⟨g, cap, hv3, hcv⟩ := conv_own ho3 (by omega)
  have hb3 : Below w.heap.size w w3 := by
    refine (hb12.alloc hb12.size _).grown hg3 (by have := hb12.size; simp; omega) (fun k hk => ?_)
    exact (ho2.lt k hk).1
  subst hv3
  generalize 1 + (Lib.decDigits (u / 100)).length + 3 = N at *
  go_wp2
  rw [hcv]
  go_wp2
  go_ret
  refine ⟨ret_str ?_, hb3⟩
  unfold fmtS
  rw [HU.out, if_pos h0]; unfold Let.amt; simp
theorem fmt_any (x : Int) (h0 : -9223372036854775808 ≤ x) (h1 : x ≤ 9223372036854775807) (w : World) (E : Env w) :
    Calls Tryd.prog 11 #[.int .i64 x] w fun e w' => e = .returned (.string (S (fmtS x))) ∧ Below w.heap.size w w' := by
  by_cases h : x < 0
  · exact fmt_neg x h h0 w E
  · exact fmt_pos x (by omega) h1 w E
end Go.Proofs.YtojjemokejmcjaaDoor.RL
