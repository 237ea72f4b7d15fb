/- Proved here: for every notice and every text that are together of bulk at most 1048576, ReportLetters returns true and its input reads behind the call as it read before (ReportLettersUptoCardSaid). Conditions: the row's list of package-level variables (calendar.ahead, strconv's table of powers, ErrRange, ErrSyntax, the two deBruijn tables), which the card ties to the program's text; the bound on the bulk. -/
import Derived.Test.YtojjemokejmcjaaDoorX
import Derived.Test.YtojjemokejmcjaaDoorCards
import Derived.Test.YtojjemokejmcjaaDoorTie
import Derived.WalkKit
import Derived.ProofKit
import Derived.OpenShut
import Derived.ChangeMaps5
import Derived.Deep.DeepHandedRow
import Derived.Deep.DeepWitnessRowRef
import Derived.Lib.LaidTab
import Derived.Lib.SmallJoins
import Derived.Stop.LaidErr
import Derived.Below
import Derived.ChangeSame
namespace Go.Proofs.YtojjemokejmcjaaDoor.RL
open Go.ChangeShapes Go.WideShapes Go.ChangeAt Go.RowKit Go.Joins Go.Deep Go.Sort Arr

theorem own : ownKnob Tryd.prog.godebug = none := by kernel_rfl
theorem gAheadT : (Tryd.prog.globals[0]?).map (·.type) = some 72 := by kernel_rfl
theorem gPowT : (Tryd.prog.globals[2]?).map (·.type) = some 88 := by kernel_rfl
theorem gSyn : Tryd.prog.globalNamed "strconv.ErrSyntax" = some 3 := by kernel_rfl
theorem gSynT : (Tryd.prog.globals[3]?).map (·.type) = some 58 := by kernel_rfl
theorem gRng : Tryd.prog.globalNamed "strconv.ErrRange" = some 4 := by kernel_rfl
theorem gRngT : (Tryd.prog.globals[4]?).map (·.type) = some 58 := by kernel_rfl
theorem cells72 : Tryd.prog.cellsOf 72 = 13 := by kernel_rfl
theorem cells3 : Tryd.prog.cellsOf 3 = 1 := by kernel_rfl
theorem cells88 : Tryd.prog.cellsOf 88 = 20 := by kernel_rfl
theorem cells52 : Tryd.prog.cellsOf 52 = 1 := by kernel_rfl
theorem cells106 : Tryd.prog.cellsOf 106 = 1 := by kernel_rfl
theorem cells9 : Tryd.prog.cellsOf 9 = 1 := by kernel_rfl
theorem star : "*" ++ "errors.errorString" = "*errors.errorString" := by decide
theorem row104 (u : TypeId) (h : Tryd.prog.typeName? 3 u = some "*errors.errorString") : u = 104 :=
  typeName_ptr_named (nm := "errors.errorString") (by rw [star]; kernel_rfl) (by kernel_rfl) (by decide) u (by rw [star]; exact h)
theorem row1 : (((begin Tryd.prog (fun _ _ => 0) default).world.heap[1]?).bind Obj.row?) = some (#[.int .i64 0], 3) := by kernel_rfl
theorem row6 : ((((begin Tryd.prog (fun _ _ => 0) default).world.heap[6]?).bind Obj.row?).map (·.2)) = some 108 := by kernel_rfl
theorem build3 : Tryd.prog.buildable 3 = true := by kernel_rfl
theorem types3 : Tryd.prog.cellTypes Tryd.prog.depth 3 = some [3] := by kernel_rfl
theorem glob : Tryd.prog.globals.size = 7 := by kernel_rfl

set_option maxRecDepth 100000 in
/-- What the row's list and the world's shape give. -/
theorem env_of {W : World} (hL : laidMet Tryd.prog Rows.reportLettersUptoRow.laid W) (hS : W.ShapedOpen Tryd.prog) : Env W := by
  have h3 := hL.tail.tail
  have h4 := h3.tail
  have h5 := h4.tail
  have h6 := h5.tail
  have t0 : Lib.TabIs Tryd.prog W "arrears/calendar.ahead" .i64 [0, 31, 59, 90, 120, 151, 181, 212, 243, 273, 304, 334, 365] :=
    Lib.tabIs_of_head gAhead gAheadT Tryd.underlying72 Tryd.underlying3 cells3 cells72 h4
  have t2 : Lib.TabIs Tryd.prog W "internal/strconv.uint64pow10" .u64 Lib.pow10Tab :=
    Lib.tabIs_of_head gPow gPowT Tryd.underlying88 Tryd.underlying52 cells52 cells88 h3
  obtain ⟨a4, s4, v4, -, -, -⟩ := laid_sentinel h5 gRng gRngT Tryd.underlying58 row104 Tryd.underlying104 Tryd.underlying106 rfl rfl Tryd.underlying9 cells106 cells9
  obtain ⟨a3, s3, v3, -, -, -⟩ := laid_sentinel h6 gSyn gSynT Tryd.underlying58 row104 Tryd.underlying104 Tryd.underlying106 rfl rfl Tryd.underlying9 cells106 cells9
  refine ⟨?_, t2, ?_, ⟨104, .pointer (some a3), ?_⟩, ⟨104, .pointer (some a4), ?_⟩, ?_⟩
  · intro i h0 h1
    obtain ⟨j, rfl⟩ := Int.eq_ofNat_of_zero_le h0
    have hj : j < 13 := by omega
    rw [Int.toNat_natCast, t0.cell gAhead j (by simpa using hj)]
    have : ∀ j : Fin 13, ([0, 31, 59, 90, 120, 151, 181, 212, 243, 273, 304, 334, 365] : List Int).getD j.1 0 = Cal.ahead (j.1 : Int) := by decide
    rw [this ⟨j, hj⟩]
  · obtain ⟨cs, hc, hsz, hok⟩ := hS.1 1 _ _ (by rw [glob]; omega) row1
    obtain ⟨ts, hts, _, hall⟩ := hok build3
    rw [types3] at hts
    cases hts
    have hsz1 : cs.size = 1 := hsz
    have h1 : 0 < cs.size := by omega
    obtain ⟨u, hu', hk⟩ := hall 0 cs[0] (by simp [h1])
    have hu : u = 3 := by simpa using hu'.symm
    subst hu
    have hv : W.cell? ⟨1, 0, none⟩ = some cs[0] := by simp [World.cell?, hc, h1]
    rw [hv]
    generalize cs[0] = v at hk
    unfold Cell.ok at hk
    rw [Tryd.underlying3] at hk
    cases v <;> simp at hk
    rename_i k m
    exact ⟨m, by rw [hk.1]⟩
  · have h0 := World.var?_cell gSyn v3 0; simpa using h0
  · have h0 := World.var?_cell gRng v4 0; simpa using h0
  · have h6 := row6
    cases hx : ((begin Tryd.prog (fun _ _ => 0) default).world.heap[6]?).bind Obj.row? with
    | none => rw [hx] at h6; simp at h6
    | some x =>
      obtain ⟨cs, hc, _, _⟩ := hS.1 6 x.1 x.2 (by rw [glob]; omega) hx
      rcases Nat.lt_or_ge 6 W.heap.size with hlt | hge
      · exact hlt
      · rw [Array.getElem?_eq_none hge] at hc; cases hc

section
variable {H : Type} {enc : TypeId × Value → H} {P : Program} {w : World} {base : Nat} {spare : Nat → Bool} {held : Bool}
theorem six_opened {r : Reach} {b0 : Nat} {t : TypeId} {f0 f1 f2 f3 f4 f5 : Field} {v : Value} {d : DataW H} {p : List MemPlace} (hs : P.underlying t = some (.struct #[f0, f1, f2, f3, f4, f5])) (hone : oneCellFields P #[f0, f1, f2, f3, f4, f5] = true) (hC : P.cellsOf t = 6)
    (hv : Value.okWide P w r b0 t v) (h : DataW.Trod enc P w base spare held t v d p) :
    ∃ (v0 v1 v2 v3 v4 v5 : Value) (y0 y1 y2 y3 y4 y5 : DataW H × List MemPlace) (n : Nat), v = .agg #[v0, v1, v2, v3, v4, v5] ∧ d = .agg [y0.1, y1.1, y2.1, y3.1, y4.1, y5.1] ∧ p = y0.2 ++ (y1.2 ++ (y2.2 ++ (y3.2 ++ (y4.2 ++ y5.2)))) ∧
      DataW.trod enc P w base spare held n f0.type [v0] = some y0 ∧ DataW.trod enc P w base spare held n f1.type [v1] = some y1 ∧ DataW.trod enc P w base spare held n f2.type [v2] = some y2 ∧ DataW.trod enc P w base spare held n f3.type [v3] = some y3 ∧ DataW.trod enc P w base spare held n f4.type [v4] = some y4 ∧ DataW.trod enc P w base spare held n f5.type [v5] = some y5 := by
  obtain ⟨cs, rfl, hsz⟩ := okWide_struct hs hv
  obtain ⟨l⟩ := cs
  match l, hsz.trans hC with
  | [c0, c1, c2, c3, c4, c5], _ =>
    obtain ⟨fuel, hf⟩ := h
    obtain ⟨xs, n, _, hx, _, hlen, hg⟩ := DataW.trod_struct hs hf
    obtain ⟨o0, k0⟩ := hone_of hone 0 f0 rfl
    obtain ⟨o1, k1⟩ := hone_of hone 1 f1 rfl
    obtain ⟨o2, k2⟩ := hone_of hone 2 f2 rfl
    obtain ⟨o3, k3⟩ := hone_of hone 3 f3 rfl
    obtain ⟨o4, k4⟩ := hone_of hone 4 f4 rfl
    obtain ⟨o5, k5⟩ := hone_of hone 5 f5 rfl
    match xs, hlen with
    | [y0, y1, y2, y3, y4, y5], _ =>
      simp only [Prod.mk.injEq] at hx
      exact ⟨c0, c1, c2, c3, c4, c5, y0, y1, y2, y3, y4, y5, n, rfl, by simpa using hx.1, by simpa using hx.2, by simpa [Value.cells, o0, k0] using hg 0 f0 rfl, by simpa [Value.cells, o1, k1] using hg 1 f1 rfl, by simpa [Value.cells, o2, k2] using hg 2 f2 rfl, by simpa [Value.cells, o3, k3] using hg 3 f3 rfl, by simpa [Value.cells, o4, k4] using hg 4 f4 rfl, by simpa [Value.cells, o5, k5] using hg 5 f5 rfl⟩
end
theorem hone23 : oneCellFields Tryd.prog #[{ name := "ID", type := 3, offset := 0, embedded := false, tag := "", pkgPath := "", byteOffset := 0 }, { name := "Loan", type := 3, offset := 1, embedded := false, tag := "", pkgPath := "", byteOffset := 8 }, { name := "Kind", type := 3, offset := 2, embedded := false, tag := "", pkgPath := "", byteOffset := 16 }, { name := "Day", type := 3, offset := 3, embedded := false, tag := "", pkgPath := "", byteOffset := 24 }, { name := "Amount", type := 2, offset := 4, embedded := false, tag := "", pkgPath := "", byteOffset := 32 }, { name := "Acked", type := 4, offset := 5, embedded := false, tag := "", pkgPath := "", byteOffset := 40 }] = true := by kernel_rfl
theorem cells23 : Tryd.prog.cellsOf 23 = 6 := by kernel_rfl

set_option maxRecDepth 100000 in
/-- The notice's reading, opened. -/
theorem notice_opened {H : Type} {enc : TypeId × Value → H} {W : World} {base : Nat} {sp : Nat → Bool} {held : Bool} {b0 : Nat} {v : Value} {d : DataW H} {p : List MemPlace}
    (hv : Value.okWide Tryd.prog W .any b0 23 v) (h : DataW.Trod enc Tryd.prog W base sp held 23 v d p) :
    ∃ (id loan kind day amt : Int) (ak : Bool), v = .agg #[.int .i64 id, .int .i64 loan, .int .i64 kind, .int .i64 day, .int .i64 amt, .bool ak] ∧
      d = .agg [.lit (.int .i64 id), .lit (.int .i64 loan), .lit (.int .i64 kind), .lit (.int .i64 day), .lit (.int .i64 amt), .lit (.bool ak)] ∧ p = [] ∧
      (Lit.int .i64 id).wf = true ∧ (Lit.int .i64 loan).wf = true ∧ (Lit.int .i64 kind).wf = true ∧ (Lit.int .i64 day).wf = true ∧ (Lit.int .i64 amt).wf = true := by
  obtain ⟨v0, v1, v2, v3, v4, v5, y0, y1, y2, y3, y4, y5, n, rfl, rfl, rfl, h0, h1, h2, h3, h4, h5⟩ := six_opened Tryd.underlying23 hone23 cells23 hv h
  obtain ⟨i0, e0, x0, w0⟩ := DataW.trod_int Tryd.underlying3 h0
  obtain ⟨i1, e1, x1, w1⟩ := DataW.trod_int Tryd.underlying3 h1
  obtain ⟨i2, e2, x2, w2⟩ := DataW.trod_int Tryd.underlying3 h2
  obtain ⟨i3, e3, x3, w3⟩ := DataW.trod_int Tryd.underlying3 h3
  obtain ⟨i4, e4, x4, w4⟩ := DataW.trod_int Tryd.underlying2 h4
  obtain ⟨i5, e5, x5⟩ := DataW.trod_bool Tryd.underlying4 h5
  simp only [List.cons.injEq, and_true] at e0 e1 e2 e3 e4 e5
  subst e0 e1 e2 e3 e4 e5 x0 x1 x2 x3 x4 x5
  exact ⟨i0, i1, i2, i3, i4, i5, rfl, rfl, rfl, w0, w1, w2, w3, w4⟩
/-- The notice's reading, in whatever world. -/
theorem notice_shut {H : Type} (enc : TypeId × Value → H) (W : World) (base : Nat) (sp : Nat → Bool) (held : Bool) (id loan kind day amt : Int) (ak : Bool)
    (w0 : (Lit.int .i64 id).wf = true) (w1 : (Lit.int .i64 loan).wf = true) (w2 : (Lit.int .i64 kind).wf = true) (w3 : (Lit.int .i64 day).wf = true) (w4 : (Lit.int .i64 amt).wf = true) :
    DataW.Trod enc Tryd.prog W base sp held 23 (.agg #[.int .i64 id, .int .i64 loan, .int .i64 kind, .int .i64 day, .int .i64 amt, .bool ak])
      (.agg [.lit (.int .i64 id), .lit (.int .i64 loan), .lit (.int .i64 kind), .lit (.int .i64 day), .lit (.int .i64 amt), .lit (.bool ak)]) [] := by
  have c2 : Tryd.prog.cellsOf 2 = 1 := by kernel_rfl
  have c4 : Tryd.prog.cellsOf 4 = 1 := by kernel_rfl
  exact ⟨3, by simp [DataW.trod, Value.cells, Tryd.underlying23, Tryd.underlying3, Tryd.underlying2, Tryd.underlying4, cells23, cells3, c2, c4, w0, w1, w2, w3, w4]⟩
theorem wf64 {n : Int} (h : (Lit.int .i64 n).wf = true) : n ≤ 9223372036854775807 := by
  exact (in64_of_wf h).2

section
variable {H : Type} {enc : TypeId × Value → H} {P : Program}
theorem post_of_below {f : Func} {s : ChangeSpec} {apart fresh handsOn again : Bool} {W W' : World} {args : Array Value} {v : Value} {ds gs : List (DataW H)} {before pa pv : List MemPlace}
    (hW : DataW.Whole enc P f.params.toList s.vars apart W args.toList ds gs before)
    (hres : ∀ (b : Nat) (sp : Nat → Bool) (hd : Bool), DataW.TrodAll enc P W' b sp hd f.resultTypes.toList (v.resultList f.resultTypes.size) (s.fn H (ds ++ gs)).results [])
    (hargs : ∀ sp : Nat → Bool, (∀ p ∈ before, sp p.block = true) → DataW.TrodAll enc P W' 0 sp true f.params.toList args.toList (s.fn H (ds ++ gs)).args pa)
    (hvars : ∀ sp : Nat → Bool, (∀ p ∈ before, sp p.block = true) → DataW.TrodVars enc P W' sp s.vars (s.fn H (ds ++ gs)).vars pv)
    (hps : before = pa ++ pv) (hb : Below W.heap.size W W')
    (hok : ∀ (j : Nat) (t : TypeId) (r : Value), f.resultTypes[j]? = some t → (v.resultList f.resultTypes.size)[j]? = some r → Value.okWide P W' .any 0 t r) :
    s.post enc P f apart fresh handsOn again W args v W' := by
  have hlt : ∀ p ∈ before, p.block < W.heap.size := fun p hp => hW.lt p hp
  have hold : ∀ p ∈ before, (fun b => decide (b < W.heap.size)) p.block = true := fun p hp => by simpa using hlt p hp
  refine ⟨ds, gs, before, [], pa, pv, hW, hres _ _ _, hargs _ hold, hvars _ hold, World.keptBut_mono (fun p hp => ⟨hp, ?_⟩) (hb.frame (· ∈ before)), fun _ => ?_⟩
  · rw [hps, List.mem_append] at hp
    exact Or.inr hp
  · obtain ⟨_, _, _, _, _, hz, hn⟩ := hW
    refine ⟨hok, _, _, ([] ++ pa) ++ pv, ⟨[] ++ pa, pv, trodAll_append (hargs _ (fun _ _ => rfl)) (hres _ _ _), hvars _ (fun _ _ => rfl), rfl, ?_, ?_⟩, ?_⟩
    · intro b off hp
      have hin : MemPlace.cell b off ∈ before := by rw [hps]; simpa using hp
      rw [hb.frozen (hlt _ hin)]
      exact hz b off hin
    · intro ha
      have := hn ha
      rw [hps] at this
      simpa using this
    · intro p hp _
      rw [hps]
      simpa using hp
end

set_option maxRecDepth 100000 in
/-- What the walk gives, for every argument of bulk at most 1048576 and every world that holds the tables. -/
theorem contract (H : Type) (enc : TypeId × Value → H) (W : World) (base : Nat) (args : Array Value) (ds gs : List (DataW H)) (before : List MemPlace)
    (hval : ∀ (j : Nat) t v, Tryd.f3.params[j]? = some t → args[j]? = some v → Value.okWide Tryd.prog W .any base t v)
    (hW : DataW.Whole enc Tryd.prog Tryd.f3.params.toList Rows.reportLettersSpec.vars false W args.toList ds gs before)
    (hk : Rows.uptoSmall H (ds ++ gs) = true) (hL : laidMet Tryd.prog Rows.reportLettersUptoRow.laid W) (hS : W.ShapedOpen Tryd.prog) :
    Calls Tryd.prog 3 args W fun e W' => ∃ v, e = .returned v ∧ Rows.reportLettersSpec.post enc Tryd.prog Tryd.f3 false true false false W args v W' := by
  have hW' := hW
  obtain ⟨p, q, hA0, hV, rfl, hfz, hnd⟩ := hW
  have hA : DataW.TrodAll enc Tryd.prog W 0 (fun _ => true) true Tryd.f3.params.toList args.toList ds p := hA0
  rw [Tryd.params3] at hA hval
  obtain ⟨v0, vs0, d0, ds0, p0, q0, hargs, rfl, rfl, h0, r0⟩ := trodAll_cons hA
  obtain ⟨v1, vs1, d1, ds1, p1, q1, rfl, rfl, rfl, h1, r1⟩ := trodAll_cons r0
  obtain ⟨rfl, rfl, rfl⟩ := trodAll_nil r1
  obtain rfl : args = #[v0, v1] := by cases args; simp_all
  obtain ⟨rfl, rfl⟩ := trodVars_none hV
  obtain ⟨id, loan, kind, day, amt, ak, rfl, rfl, rfl, w0, w1, w2, w3, w4⟩ := notice_opened (hval 0 23 v0 rfl rfl) h0
  obtain ⟨s, rfl, rfl, rfl, hs⟩ := Go.ChangeMaps.open_string Tryd.underlying9 (hval 1 9 v1 rfl rfl) h1
  clear hA0
  simp only [List.append_nil] at hW' hk
  have hlen : s.data.toList.length ≤ 2000000 := by
    have h := of_decide_eq_true hk
    simp only [Rows.uptoBulkAll, Rows.uptoBulk] at h
    omega
  have hsS : s = S s.data.toList := by apply ByteArray.ext; simp [S]
  have walk := law_any id loan kind day amt ak s.data.toList hlen W (env_of hL hS) (wf64 w0) (wf64 w1) (wf64 w4)
  rw [← hsS] at walk
  refine walk.mono fun e W' ⟨he, hb⟩ => ?_
  subst he
  exact ⟨_, rfl, post_of_below (pa := []) (pv := []) hW' (fun _ _ _ => trodAll_cons_mk (shut_bool Tryd.underlying4 _) trodAll_mk0)
    (fun sp _ => trodAll_cons_mk (notice_shut enc W' 0 sp true id loan kind day amt ak w0 w1 w2 w3 w4) (trodAll_cons_mk (Go.ChangeMaps.shut_string Tryd.underlying9 hs) trodAll_mk0)) (fun _ _ => rfl) rfl hb
    (ok_one (by kernel_rfl) rfl (okWide_bool_mk Tryd.underlying4 _))⟩

/-- A world for the witness: the settled one, the listed tables and the two sentinels laid. -/
noncomputable def laidW (os : Os) : World :=
  let N := (World.settled Tryd.prog os).heap.size
  let w0 := World.holding Tryd.prog os ⟨#[.cells #[.string ⟨#[118, 97, 108, 117, 101, 32, 111, 117, 116, 32, 111, 102, 32, 114, 97, 110, 103, 101]⟩] 106, .cells #[.string ⟨#[105, 110, 118, 97, 108, 105, 100, 32, 115, 121, 110, 116, 97, 120]⟩] 106], #[], []⟩
  let put (h : Array Obj) (g : Nat) (cs : Array Value) : Array Obj := h.modify g fun
    | .cells _ t frozen => .cells cs t frozen
    | o => o
  let h0 := put w0.heap 0 ([0, 31, 59, 90, 120, 151, 181, 212, 243, 273, 304, 334, 365].map (Value.int .i64)).toArray
  let h2 := put h0 2 ([1, 10, 100, 1000, 10000, 100000, 1000000, 10000000, 100000000, 1000000000, 10000000000, 100000000000, 1000000000000, 10000000000000, 100000000000000, 1000000000000000, 10000000000000000, 100000000000000000, 1000000000000000000, 10000000000000000000].map (Value.int .u64)).toArray
  let h4 := put h2 4 #[.iface 104 (.pointer (some ⟨N, 0, none⟩))]
  let h3 := put h4 3 #[.iface 104 (.pointer (some ⟨N + 1, 0, none⟩))]
  let h5 := put h3 5 ([0, 1, 28, 2, 29, 14, 24, 3, 30, 22, 20, 15, 25, 17, 4, 8, 31, 27, 13, 23, 21, 19, 16, 7, 26, 12, 18, 6, 11, 5, 10, 9].map (Value.int .u8)).toArray
  let h6 := put h5 6 ([0, 1, 56, 2, 57, 49, 28, 3, 61, 58, 42, 50, 38, 29, 17, 4, 62, 47, 59, 36, 45, 43, 51, 22, 53, 39, 33, 30, 24, 18, 12, 5, 63, 55, 48, 27, 60, 41, 37, 16, 46, 35, 44, 21, 52, 32, 23, 11, 54, 26, 40, 15, 34, 20, 31, 10, 25, 14, 19, 9, 13, 8, 7, 6].map (Value.int .u8)).toArray
  { w0 with heap := h6 }
noncomputable abbrev wArgs : Array Value := #[.agg #[.int .i64 0, .int .i64 0, .int .i64 0, .int .i64 0, .int .i64 0, .bool false], .string ⟨#[]⟩]
theorem laid_met (os : Os) : laidMet Tryd.prog Rows.reportLettersUptoRow.laid ((laidW os).forCall (fun _ _ => 0) ⟨#[], wArgs, []⟩).memory :=
  laidMet_of_run' 8 (by kernel_rfl) (by kernel_rfl)
theorem reads (os : Os) {H : Type} (enc : TypeId × Value → H) : ∃ places, DataW.whole enc Tryd.prog ((laidW os).forCall (fun _ _ => 0) ⟨#[], wArgs, []⟩).memory Tryd.f3.params.toList Rows.reportLettersSpec.vars false wArgs.toList 8 =
    some ([.agg [.lit (.int .i64 0), .lit (.int .i64 0), .lit (.int .i64 0), .lit (.int .i64 0), .lit (.int .i64 0), .lit (.bool false)], .lit (.string [])], [], places) :=
  ⟨[], by kernel_rfl⟩

set_option maxRecDepth 100000 in
theorem lifted (os : Os) (started : os.Started) (H : Type) (enc : TypeId × Value → H) (F : Stop.Interp) :
    ReturnsInHanded {} Tryd.checked os 3 .any ((Rows.OpenSpec.upto Rows.reportLettersSpec).preRow enc Tryd.prog Tryd.f3 Rows.reportLettersUptoRow.domain false Rows.reportLettersUptoRow.laid) (((Rows.OpenSpec.upto Rows.reportLettersSpec).at F).post enc Tryd.prog Tryd.f3 false true false false) := by
  obtain ⟨places, hx⟩ := reads os enc
  refine returnsInHanded_of_row (C := Tryd.checked) (s := Rows.OpenSpec.upto Rows.reportLettersSpec) own started (by kernel_rfl) Tryd.func3
    (witness_row_atRef (enc := enc) (C := Tryd.checked) false (laidW os) wArgs rfl (by kernel_rfl) (by kernel_rfl) (by kernel_rfl)
      (OpenSpec.preRow_of_cond 8 hx (by kernel_rfl) (fun k hk => by cases hk; kernel_rfl) (by kernel_rfl) (laid_met os))) ?_
  intro W base args ds gs before hval hW _ hcond _ hL hS _
  exact contract H enc W base args ds gs before hval hW (hcond _ rfl) hL hS

theorem saidUpto : Rows.ReportLettersUptoSaid :=
  OpenClaim.holds_of_cond 3 Tryd.f3 rfl rfl rfl rfl rfl rfl rfl ⟨rfl, rfl, rfl, rfl, rfl⟩ rfl rfl rfl rfl rfl (by kernel_rfl) Tryd.func3 (by kernel_rfl)
    (of_decide_eq_true (by kernel_rfl)) (by unfold Func.isWrapper; first | (rw [if_pos (by decide +kernel)]; kernel_rfl) | (rw [if_neg (by decide +kernel)]; exact ⟨rfl, rfl⟩))
    (fun os started H enc _ F => by rw [OpenClaim.pre_eq_preRow]; exact lifted os started H enc F)

/-- No parameter wants a stand-in; the program's own looks are off. -/
theorem plain (f : FuncId) (fn : Func) (hf : Tryd.pinned.checked.prog.funcNamed "arrears/arrearslaw21.ReportLetters" = some f) (hfn : Tryd.pinned.checked.prog.funcs[f]? = some fn) :
    true = Tryd.pinned.checked.prog.looks [] ∧ ∀ (j : Nat) t, fn.params[j]? = some t → Tryd.pinned.checked.prog.wantsStandIn t = false := by
  obtain rfl : f = 3 := Option.some.inj ((show Tryd.prog.funcNamed "arrears/arrearslaw21.ReportLetters" = some 3 by kernel_rfl).symm.trans hf) |>.symm
  obtain rfl : fn = Tryd.f3 := (Option.some.inj (Tryd.func3.symm.trans hfn)).symm
  refine ⟨by kernel_rfl, fun j t ht => ?_⟩
  rw [Tryd.params3] at ht
  have hm := Array.mem_of_getElem? ht
  simp at hm
  rcases hm with rfl | rfl
  · exact (show Tryd.prog.wantsStandIn 23 = false by kernel_rfl)
  · exact (show Tryd.prog.wantsStandIn 9 = false by kernel_rfl)

/-- The card. -/
theorem cardUpto : Rows.ReportLettersUptoCardSaid :=
  Claim7.holds_tied_plain_at .later [] _ _ _ _ saidUpto (fun _ h => by cases h) (by kernel_rfl) (fun _ h => by cases h) reportLettersUpto_row_tie rfl ⟨rfl, rfl⟩ (by kernel_rfl) rfl plain (by kernel_rfl)
end Go.Proofs.YtojjemokejmcjaaDoor.RL
