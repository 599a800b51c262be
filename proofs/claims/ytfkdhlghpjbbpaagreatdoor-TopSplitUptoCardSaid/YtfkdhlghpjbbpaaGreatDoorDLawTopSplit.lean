import Derived.Test.YtfkdhlghpjbbpaaGreatDoorWe
import Derived.Test.YtfkdhlghpjbbpaaGreatDoorWd
import Derived.Test.YtfkdhlghpjbbpaaGreatDoorAvG
import Derived.LaidOnce
import Derived.SevenTiedAt
import Derived.Stop.Joined
import Derived.Deep.DeepHandedRow
import Derived.Lib.LaidU8
import Derived.Test.YtfkdhlghpjbbpaaGreatDoorCards
import Derived.Test.YtfkdhlghpjbbpaaGreatDoorTie
/- Proved: the tied card of the law TopSplit in its second form: whatever comes in, of bulk at most 1048576, it returns true, and its arguments read afterwards as they did before. Conditions: none beyond those that the given statement itself names. -/
namespace Go.Proofs.YtfkdhlghpjbbpaaGreatDoor.topSplitDone
open Go.ChangeShapes Go.WideShapes Go.ChangeAt Go.RowKit Go.Av Go.Av.Tryz Go.Shelf
open Go.ChangeMaps (open_string shut_string)
set_option maxRecDepth 100000
def decLays_ren : Go.Shelf.Ren := ⟨fun | 260 => 155 | n => n, fun | 9 => 9 | 21 => 21 | 3 => 3 | 4 => 4 | 5 => 5 | 119 => 204 | 0 => 0 | 46 => 193 | 139 => 207 | 138 => 206 | n => n, fun | 3 => 1 | 4 => 2 | n => n⟩
theorem decLays : Go.Proofs.LaysM.n260 Tryz.prog decLays_ren where
  mixed := by kernel_rfl
  f260 := Tryz.func155.trans (congrArg some (by kernel_rfl))
  t0 := Tryz.underlying0
  a0 := Tryz.isAgg0
  z0 := Tryz.sizeOf0
  v0 := Tryz.zeroValue0
  t3 := Tryz.underlying3
  a3 := Tryz.isAgg3
  z3 := Tryz.sizeOf3
  v3 := Tryz.zeroValue3
  t4 := Tryz.underlying4
  a4 := Tryz.isAgg4
  z4 := Tryz.sizeOf4
  v4 := Tryz.zeroValue4
  t5 := Tryz.underlying5
  a5 := Tryz.isAgg5
  z5 := Tryz.sizeOf5
  v5 := Tryz.zeroValue5
  t9 := Tryz.underlying9
  a9 := Tryz.isAgg9
  z9 := Tryz.sizeOf9
  v9 := Tryz.zeroValue9
  t21 := Tryz.underlying21
  a21 := Tryz.isAgg21
  z21 := Tryz.sizeOf21
  v21 := Tryz.zeroValue21
  t46 := Tryz.underlying193
  a46 := Tryz.isAgg193
  z46 := Tryz.sizeOf193
  v46 := Tryz.zeroValue193
  t119 := Tryz.underlying204
  a119 := Tryz.isAgg204
  z119 := Tryz.sizeOf204
  t138 := Tryz.underlying206
  a138 := Tryz.isAgg206
  z138 := Tryz.sizeOf206
  v138 := Tryz.zeroValue206
  t139 := Tryz.underlying207
  a139 := Tryz.isAgg207
  z139 := Tryz.sizeOf207
  v139 := Tryz.zeroValue207
  g3 := by kernel_rfl
  g4 := by kernel_rfl
  i0 := by kernel_rfl
  i3 := by kernel_rfl
  i4 := by kernel_rfl
  i5 := by kernel_rfl
  i9 := by kernel_rfl
  i21 := by kernel_rfl
  i46 := by kernel_rfl
  i138 := by kernel_rfl
  i139 := by kernel_rfl
  m3 := by kernel_rfl
  m4 := by kernel_rfl

theorem own : ownKnob Tryz.prog.godebug = none := by kernel_rfl
theorem laidOut : laidOutB Tryz.prog = true := by kernel_rfl
theorem types : okTs Tryz.prog [3, 4, 9, 62, 58, 59, 60, 127] = true := by kernel_rfl

theorem u8x : U8Extra Tryz.prog decLays_ren := by constructor <;> kernel_rfl
theorem tabs {W : World} (h : laidMetH Tryz.prog Rows.topSplitUptoRow.laid W) : Lib.Utf8Tabs 1 2 W := by
  rw [MakeChecks.laidMetH_plain _ _ _ (by kernel_rfl)] at h
  have e1 : (Rows.laid_unicode_utf8_first : DataW Unit) = Lib.firstData := by kernel_rfl
  have e2 : (Rows.laid_unicode_utf8_acceptRanges : DataW Unit) = Lib.acceptData := by kernel_rfl
  exact utf8Tabs_of_reads decLays.ton260 u8x (Lib.laidMet.reads h (by rw [← e1]; simp [Rows.topSplitUptoRow])) (Lib.laidMet.reads h (by rw [← e2]; simp [Rows.topSplitUptoRow]))

theorem invs {W : World} (hL : laidMetH Tryz.prog Rows.topSplitUptoRow.laid W) (h : W.ShapedOpen Tryz.prog) : Go.Av.Inv.inv Tryz.prog (front W) W :=
  ⟨fun b hb => (by
    have : Tryz.prog.globalNamed "internal/strconv.uint64pow10" = none := by kernel_rfl
    rw [this] at hb; cases hb), fun b hb => (by
    obtain ⟨m, hm⟩ := q9F.s1_3 W h
    obtain rfl : 0 = b := Option.some.inj ((show Tryz.prog.globalNamed "internal/bytealg.MaxLen" = some 0 by kernel_rfl).symm.trans hb)
    exact ⟨m, hm⟩), j5O (show Tryz.prog.globalNamed "unicode/utf8.first" = some 1 by kernel_rfl) (show Tryz.prog.globalNamed "unicode/utf8.acceptRanges" = some 2 by kernel_rfl) (tabs hL)⟩

theorem bulkAll {H : Type} : ∀ l : List (DataW H), Rows.uptoBulkAll l = (l.map Rows.uptoBulk).sum
  | [] => by simp [Rows.uptoBulkAll]
  | x :: r => by simp [Rows.uptoBulkAll, bulkAll r]
theorem bulk {H : Type} : z6r (Rows.uptoBulk (H := H)) where
  str bytes := by simp [Rows.uptoBulk]
  lit l := by cases l <;> simp [Rows.uptoBulk]
  map es := by simp [Rows.uptoBulk]
  nil := by simp [Rows.uptoBulk]
  slice el sp := by simp only [Rows.uptoBulk, bulkAll]; omega
  agg ps := by simp only [Rows.uptoBulk, bulkAll]; omega



theorem read1B {H : Type} {enc : TypeId × Value → H} {P : Program} {w : World} {base : Nat} {spare : Nat → Bool} {held : Bool} {bk : DataW H → Nat} (hbk : z6r bk) {ts : List TypeId} (hts : okTs P ts = true) {t : TypeId} (ht : t ∈ ts) {v : Value} (hv : v.cells = #[v]) {d : DataW H} {p : List MemPlace} (h : DataW.Trod enc P w base spare held t v d p) :
    ∃ k x, OfT P k t [x] ∧ RD (front w) w x v ∧ bkD x ≤ bk d := by
  obtain ⟨fuel, hf⟩ := h
  obtain ⟨ds, h1, h2, h3, h4, h5, h6⟩ := j3m hbk hts fuel t _ _ ht hf
  rw [hv] at h2 h5
  match ds, h2 with
  | [x], _ => exact ⟨fuel, x, h1, h5 0 x v rfl rfl, by simpa [bkL] using h6⟩
theorem lifted (os : Os) (started : os.Started) (H : Type) (enc : TypeId × Value → H) (F : Stop.Interp) :
    ReturnsInHanded {} Tryz.checked os 6 .any ((Rows.OpenSpec.upto Rows.topSplitSpec).preRow enc Tryz.prog Tryz.f6 Rows.topSplitUptoRow.domain false Rows.topSplitUptoRow.laid) (((Rows.OpenSpec.upto Rows.topSplitSpec).at F).post enc Tryz.prog Tryz.f6 false true false false) := by
  have hx : ∃ ds places, DataW.whole enc Tryz.prog ((World.laidAll Tryz.prog os Rows.topSplitUptoRow.laid).forCall (fun _ _ => 0) ⟨#[], #[.agg #[.bool false, .map none, .int .i64 0, .map none, .slice none 0 0], .int .i64 0, .int .i64 0, .int .i64 0, .string .empty, .string .empty], []⟩).memory Tryz.f6.params.toList Rows.topSplitSpec.vars false #[Value.agg #[.bool false, .map none, .int .i64 0, .map none, .slice none 0 0], .int .i64 0, .int .i64 0, .int .i64 0, .string .empty, .string .empty].toList 8 = some (ds, [], places) ∧
      ds = [.agg [.lit (.bool false), .nil, .lit (.int .i64 0), .nil, .nil], .lit (.int .i64 0), .lit (.int .i64 0), .lit (.int .i64 0), .lit (.string []), .lit (.string [])] := ⟨_, [], by kernel_rfl, rfl⟩
  obtain ⟨_, places, hx, rfl⟩ := hx
  refine returnsInHanded_of_row (C := Tryz.checked) (s := Rows.OpenSpec.upto Rows.topSplitSpec) own started (by kernel_rfl) Tryz.func6
    ⟨World.laidAll Tryz.prog os Rows.topSplitUptoRow.laid, fun _ _ => 0, ⟨#[], #[.agg #[.bool false, .map none, .int .i64 0, .map none, .slice none 0 0], .int .i64 0, .int .i64 0, .int .i64 0, .string .empty, .string .empty], []⟩, World.laidAll_os _ _ _,
      World.shaped_of_ZipB (by kernel_rfl) (by kernel_rfl), rfl, (Input.okWide_of_okWideB (by kernel_rfl)).2,
      OpenSpec.preRow_of_cond 8 hx (by kernel_rfl) (fun k hk => by cases hk; kernel_rfl) (by kernel_rfl) (by rw [MakeChecks.laidMetH_plain _ _ _ (by kernel_rfl)]; exact laidMet_laidAll _ (by kernel_rfl) (by kernel_rfl)),
      by simp only [Assume.holds]; exact ⟨by simp, by simp, fun _ => Modest.zero, by simp, by simp⟩⟩ ?_
  intro W base args ds gs before hval0 hW _ hcond _ hL hsh _
  have hval : ∀ (j : Nat) t v, Tryz.f6.params[j]? = some t → args[j]? = some v → Value.okWide Tryz.prog W .any base t v := hval0
  have hW' := hW
  obtain ⟨p, q, hA0, hV, rfl, hfz, hnd⟩ := hW
  have hA : DataW.TrodAll enc Tryz.prog W 0 (fun _ => true) true Tryz.f6.params.toList args.toList ds p := hA0
  rw [Tryz.params6] at hA hval
  obtain ⟨v0, vs0, d0, ds0, p0, q0, hargs, rfl, rfl, h0, r0⟩ := trodAll_cons hA
  obtain ⟨v1, vs1, d1, ds1, p1, q1, rfl, rfl, rfl, h1, r1⟩ := trodAll_cons r0
  obtain ⟨v2, vs2, d2, ds2, p2, q2, rfl, rfl, rfl, h2, r2⟩ := trodAll_cons r1
  obtain ⟨v3, vs3, d3, ds3, p3, q3, rfl, rfl, rfl, h3, r3⟩ := trodAll_cons r2
  obtain ⟨v4, vs4, d4, ds4, p4, q4, rfl, rfl, rfl, h4, r4⟩ := trodAll_cons r3
  obtain ⟨v5, vs5, d5, ds5, p5, q5, rfl, rfl, rfl, h5, r5⟩ := trodAll_cons r4
  obtain ⟨rfl, rfl, rfl⟩ := trodAll_nil r5
  obtain rfl : args = #[v0, v1, v2, v3, v4, v5] := by cases args; simp_all
  obtain ⟨rfl, rfl⟩ := trodVars_none hV
  have hsz : (Rows.uptoBulk d0 + (Rows.uptoBulk d1 + (Rows.uptoBulk d2 + (Rows.uptoBulk d3 + (Rows.uptoBulk d4 + (Rows.uptoBulk d5 + 0)))))) ≤ 1048576 := by
    have := hcond _ rfl
    simpa [Rows.uptoSmall, Rows.uptoBulkAll] using this
  have k0 := h0
  have k1 := h1
  have k2 := h2
  have k3 := h3
  have k4 := h4
  have k5 := h5
  have lt0 : ∀ x ∈ p0, x.block < W.heap.size := by obtain ⟨m, hm⟩ := k0; exact DataW.trod_lt m _ _ _ hm
  have lt1 : ∀ x ∈ p1, x.block < W.heap.size := by obtain ⟨m, hm⟩ := k1; exact DataW.trod_lt m _ _ _ hm
  have lt2 : ∀ x ∈ p2, x.block < W.heap.size := by obtain ⟨m, hm⟩ := k2; exact DataW.trod_lt m _ _ _ hm
  have lt3 : ∀ x ∈ p3, x.block < W.heap.size := by obtain ⟨m, hm⟩ := k3; exact DataW.trod_lt m _ _ _ hm
  have lt4 : ∀ x ∈ p4, x.block < W.heap.size := by obtain ⟨m, hm⟩ := k4; exact DataW.trod_lt m _ _ _ hm
  have lt5 : ∀ x ∈ p5, x.block < W.heap.size := by obtain ⟨m, hm⟩ := k5; exact DataW.trod_lt m _ _ _ hm
  obtain ⟨z0, rfl, _⟩ := okWide_struct Tryz.underlying62 (hval 0 62 v0 rfl rfl)
  obtain ⟨z1, rfl⟩ := okWide_int Tryz.underlying3 (hval 1 3 v1 rfl rfl)
  obtain ⟨z2, rfl⟩ := okWide_int Tryz.underlying3 (hval 2 3 v2 rfl rfl)
  obtain ⟨z3, rfl⟩ := okWide_int Tryz.underlying3 (hval 3 3 v3 rfl rfl)
  obtain ⟨z4, rfl⟩ := okWide_string Tryz.underlying9 (hval 4 9 v4 rfl rfl)
  obtain ⟨z5, rfl⟩ := okWide_string Tryz.underlying9 (hval 5 9 v5 rfl rfl)
  obtain ⟨m0, x0, o0, w0, g0⟩ := j5z bulk types (by simp) h0
  obtain ⟨n0, e0, b0, c0⟩ := j3W o0
  rw [e0] at w0
  obtain ⟨m1, x1, o1, w1, g1⟩ := read1B bulk types (by simp) rfl h1
  obtain ⟨n1, e1, b1⟩ := o1.int Tryz.underlying3
  have b1 := wf64 b1
  cases e1
  obtain ⟨m2, x2, o2, w2, g2⟩ := read1B bulk types (by simp) rfl h2
  obtain ⟨n2, e2, b2⟩ := o2.int Tryz.underlying3
  have b2 := wf64 b2
  cases e2
  obtain ⟨m3, x3, o3, w3, g3⟩ := read1B bulk types (by simp) rfl h3
  obtain ⟨n3, e3, b3⟩ := o3.int Tryz.underlying3
  have b3 := wf64 b3
  cases e3
  obtain ⟨m4, x4, o4, w4, g4⟩ := read1B bulk types (by simp) rfl h4
  obtain ⟨n4, e4, b4⟩ := o4.string Tryz.underlying9
  cases e4
  have l4 : n4.length ≤ 1048576 := by simp only [bkD] at g4; omega
  obtain ⟨m5, x5, o5, w5, g5⟩ := read1B bulk types (by simp) rfl h5
  obtain ⟨n5, e5, b5⟩ := o5.string Tryz.underlying9
  cases e5
  have l5 : n5.length ≤ 1048576 := by simp only [bkD] at g5; omega
  refine ((z3F n0 b0 n1 n2 n3 ⟨b1, b2, b3, c0⟩ n4 n5 (by omega) (by omega)).law (invs hL hsh) (w := W) (vs := #[.agg z0, .int .i64 z1, .int .i64 z2, .int .i64 z3, .string z4, .string z5]) rfl (fun i y hy => by
    match i, hy with
    | 0, hy => cases hy; exact w0
    | 1, hy => cases hy; exact w1
    | 2, hy => cases hy; exact w2
    | 3, hy => cases hy; exact w3
    | 4, hy => cases hy; exact w4
    | 5, hy => cases hy; exact w5
    | (i + 6), hy => simp at hy)).mono fun e W' ⟨he, bel⟩ => ?_
  subst he
  exact ⟨_, rfl, _, _, _, [], _, [], hW', trodAll_mk1 (shut_bool Tryz.underlying4 _), (trodAll_cons_mk (Below.trod laidOut (by kernel_rfl) (of_decide_eq_true (by kernel_rfl)) k0 bel lt0) (trodAll_cons_mk (Below.trod laidOut (by kernel_rfl) (of_decide_eq_true (by kernel_rfl)) k1 bel lt1) (trodAll_cons_mk (Below.trod laidOut (by kernel_rfl) (of_decide_eq_true (by kernel_rfl)) k2 bel lt2) (trodAll_cons_mk (Below.trod laidOut (by kernel_rfl) (of_decide_eq_true (by kernel_rfl)) k3 bel lt3) (trodAll_cons_mk (Below.trod laidOut (by kernel_rfl) (of_decide_eq_true (by kernel_rfl)) k4 bel lt4) (trodAll_cons_mk (Below.trod laidOut (by kernel_rfl) (of_decide_eq_true (by kernel_rfl)) k5 bel lt5) trodAll_mk0)))))), rfl, bel.frame _, fun h => by cases h⟩

theorem over : Rows.TopSplitUptoSaid :=
  OpenClaim.holds_of_cond 6 Tryz.f6 rfl rfl rfl rfl rfl rfl rfl ⟨rfl, rfl, rfl, rfl, rfl⟩ rfl rfl rfl rfl rfl (by kernel_rfl) Tryz.func6 (by kernel_rfl)
    (of_decide_eq_true (by kernel_rfl)) (by unfold Func.isWrapper; first | (rw [if_pos (by decide +kernel)]; kernel_rfl) | (rw [if_neg (by decide +kernel)]; exact ⟨rfl, rfl⟩))
    (fun os started H enc _ F => by rw [OpenClaim.pre_eq_preRow]; exact lifted os started H enc F)

theorem proved : Rows.TopSplitUptoCardSaid :=
  Claim7.holds_tied_plain_at .later [] [.data, .pinned] true (true, "b7007662d3a60fb1240f1c20bdf16f02660c988fa0670db85edd0e4a7d013aeb") true
    over (fun _ h => by cases h) (by kernel_rfl) (fun _ h => by cases h) topSplitUpto_row_tie rfl ⟨rfl, rfl⟩ (by kernel_rfl) rfl
    (fun f fn hf hfn => by
      obtain rfl : f = 6 := Option.some.inj ((show Tryz.prog.funcNamed "foliowright/foliowrighttop.TopSplit" = some 6 by kernel_rfl).symm.trans hf) |>.symm
      obtain rfl : fn = Tryz.f6 := (Option.some.inj (Tryz.func6.symm.trans hfn)).symm
      exact ⟨by kernel_rfl, fun j t ht => by
        rw [Tryz.params6] at ht
        have hm : t ∈ [62, 3, 9] := by
          have h := Array.mem_of_getElem? ht
          simp only [List.mem_toArray, List.mem_cons, List.not_mem_nil, or_false] at h
          rcases h with rfl | rfl | rfl | rfl | rfl | rfl <;> simp
        have hall : ([62, 3, 9].all fun u => !Tryz.prog.wantsStandIn u) = true := by kernel_rfl
        exact (show Tryz.prog.wantsStandIn t = false by simpa using List.all_eq_true.1 hall t hm)⟩)
    (by kernel_rfl)
#print axioms proved
end Go.Proofs.YtfkdhlghpjbbpaaGreatDoor.topSplitDone
