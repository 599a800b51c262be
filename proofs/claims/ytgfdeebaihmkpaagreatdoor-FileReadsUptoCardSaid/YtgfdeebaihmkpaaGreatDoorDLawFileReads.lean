import Derived.Test.YtgfdeebaihmkpaaGreatDoorWh
import Derived.Test.YtgfdeebaihmkpaaGreatDoorWd
import Derived.Test.YtgfdeebaihmkpaaGreatDoorAvG
import Derived.LaidOnce
import Derived.SevenTiedAt
import Derived.Stop.Joined
import Derived.Deep.DeepHandedRow
import Derived.Lib.LaidU8
import Derived.Test.YtgfdeebaihmkpaaGreatDoorCards
import Derived.Test.YtgfdeebaihmkpaaGreatDoorTie
/- Proved: the tied card of the law FileReads in its second form: whatever comes in, of bulk at most 1048576, it returns true, and its arguments read afterwards as they did before. Conditions: none beyond those that the given statement itself names. -/
namespace Go.Proofs.YtgfdeebaihmkpaaGreatDoor.fileReadsDone
open Go.ChangeShapes Go.WideShapes Go.ChangeAt Go.RowKit Go.Av Go.Av.Tryz Go.Shelf
open Go.ChangeMaps (open_string shut_string)
set_option maxRecDepth 100000
def decLays_ren : Go.Shelf.Ren := ⟨fun | 260 => 205 | n => n, fun | 9 => 9 | 21 => 21 | 3 => 3 | 4 => 4 | 5 => 5 | 119 => 228 | 0 => 0 | 46 => 127 | 139 => 231 | 138 => 230 | n => n, fun | 3 => 4 | 4 => 5 | n => n⟩
theorem decLays : Go.Proofs.LaysM.n260 Tryz.prog decLays_ren where
  mixed := by kernel_rfl
  f260 := Tryz.func205.trans (congrArg some (by kernel_rfl))
  t0 := Tryz.underlying0
  a0 := Tryz.isAgg0
  z0 := Tryz.sizeOf0
  v0 := Tryz.zeroValue0
  t3 := Tryz.underlying3
  a3 := Tryz.isAgg3
  z3 := Tryz.sizeOf3
  v3 := Tryz.zeroValue3
  t4 := Tryz.underlying4
  a4 := Tryz.isAgg4
  z4 := Tryz.sizeOf4
  v4 := Tryz.zeroValue4
  t5 := Tryz.underlying5
  a5 := Tryz.isAgg5
  z5 := Tryz.sizeOf5
  v5 := Tryz.zeroValue5
  t9 := Tryz.underlying9
  a9 := Tryz.isAgg9
  z9 := Tryz.sizeOf9
  v9 := Tryz.zeroValue9
  t21 := Tryz.underlying21
  a21 := Tryz.isAgg21
  z21 := Tryz.sizeOf21
  v21 := Tryz.zeroValue21
  t46 := Tryz.underlying127
  a46 := Tryz.isAgg127
  z46 := Tryz.sizeOf127
  v46 := Tryz.zeroValue127
  t119 := Tryz.underlying228
  a119 := Tryz.isAgg228
  z119 := Tryz.sizeOf228
  t138 := Tryz.underlying230
  a138 := Tryz.isAgg230
  z138 := Tryz.sizeOf230
  v138 := Tryz.zeroValue230
  t139 := Tryz.underlying231
  a139 := Tryz.isAgg231
  z139 := Tryz.sizeOf231
  v139 := Tryz.zeroValue231
  g3 := by kernel_rfl
  g4 := by kernel_rfl
  i0 := by kernel_rfl
  i3 := by kernel_rfl
  i4 := by kernel_rfl
  i5 := by kernel_rfl
  i9 := by kernel_rfl
  i21 := by kernel_rfl
  i46 := by kernel_rfl
  i138 := by kernel_rfl
  i139 := by kernel_rfl
  m3 := by kernel_rfl
  m4 := by kernel_rfl

theorem own : ownKnob Tryz.prog.godebug = none := by kernel_rfl
theorem laidOut : laidOutB Tryz.prog = true := by kernel_rfl
theorem types : okTs Tryz.prog [3, 4, 9, 25, 22, 23, 88] = true := by kernel_rfl

theorem u8x : U8Extra Tryz.prog decLays_ren := by constructor <;> kernel_rfl
theorem tabs {W : World} (h : laidMetH Tryz.prog Rows.fileReadsUptoRow.laid W) : Lib.Utf8Tabs 4 5 W := by
  rw [MakeChecks.laidMetH_plain _ _ _ (by kernel_rfl)] at h
  have e1 : (Rows.laid_unicode_utf8_first : DataW Unit) = Lib.firstData := by kernel_rfl
  have e2 : (Rows.laid_unicode_utf8_acceptRanges : DataW Unit) = Lib.acceptData := by kernel_rfl
  exact utf8Tabs_of_reads decLays.ton260 u8x (Lib.laidMet.reads h (by rw [← e1]; simp [Rows.fileReadsUptoRow])) (Lib.laidMet.reads h (by rw [← e2]; simp [Rows.fileReadsUptoRow]))

theorem tab {W : World} (h : laidMetH Tryz.prog Rows.fileReadsUptoRow.laid W) : Lib.TabIs Tryz.prog W "internal/strconv.uint64pow10" .u64 Lib.pow10Tab := by
  rw [MakeChecks.laidMetH_plain _ _ _ (by kernel_rfl)] at h
  have e : (Rows.laid_internal_strconv_uint64pow10 : DataW Unit) = Lib.tabData .u64 Lib.pow10Tab := by kernel_rfl
  exact j9Q (g := 1) (t := 197) (n := 20) (by kernel_rfl) (by kernel_rfl) Tryz.underlying197 Tryz.underlying161 (by kernel_rfl) (by kernel_rfl)
    (by rw [← e]; simp [Rows.fileReadsUptoRow]) h

theorem invs {W : World} (hL : laidMetH Tryz.prog Rows.fileReadsUptoRow.laid W) (h : W.ShapedOpen Tryz.prog) : Go.Av.Inv.inv Tryz.prog (front W) W :=
  ⟨fun _ _ => tab hL, fun b hb => (by
    obtain ⟨m, hm⟩ := z2J.s1_3 W h
    obtain rfl : 0 = b := Option.some.inj ((show Tryz.prog.globalNamed "internal/bytealg.MaxLen" = some 0 by kernel_rfl).symm.trans hb)
    exact ⟨m, hm⟩), j9R (show Tryz.prog.globalNamed "unicode/utf8.first" = some 4 by kernel_rfl) (show Tryz.prog.globalNamed "unicode/utf8.acceptRanges" = some 5 by kernel_rfl) (tabs hL)⟩

theorem bulkAll {H : Type} : ∀ l : List (DataW H), Rows.uptoBulkAll l = (l.map Rows.uptoBulk).sum
  | [] => by simp [Rows.uptoBulkAll]
  | x :: r => by simp [Rows.uptoBulkAll, bulkAll r]
theorem bulk {H : Type} : j0Y (Rows.uptoBulk (H := H)) where
  str bytes := by simp [Rows.uptoBulk]
  lit l := by cases l <;> simp [Rows.uptoBulk]
  map es := by simp [Rows.uptoBulk]
  nil := by simp [Rows.uptoBulk]
  slice el sp := by simp only [Rows.uptoBulk, bulkAll]; omega
  agg ps := by simp only [Rows.uptoBulk, bulkAll]; omega



theorem read1B {H : Type} {enc : TypeId × Value → H} {P : Program} {w : World} {base : Nat} {spare : Nat → Bool} {held : Bool} {bk : DataW H → Nat} (hbk : j0Y bk) {ts : List TypeId} (hts : okTs P ts = true) {t : TypeId} (ht : t ∈ ts) {v : Value} (hv : v.cells = #[v]) {d : DataW H} {p : List MemPlace} (h : DataW.Trod enc P w base spare held t v d p) :
    ∃ k x, OfT P k t [x] ∧ RD (front w) w x v ∧ bkD x ≤ bk d := by
  obtain ⟨fuel, hf⟩ := h
  obtain ⟨ds, h1, h2, h3, h4, h5, h6⟩ := j7A hbk hts fuel t _ _ ht hf
  rw [hv] at h2 h5
  match ds, h2 with
  | [x], _ => exact ⟨fuel, x, h1, h5 0 x v rfl rfl, by simpa [bkL] using h6⟩
theorem lifted (os : Os) (started : os.Started) (H : Type) (enc : TypeId × Value → H) (F : Stop.Interp) :
    ReturnsInHanded {} Tryz.checked os 3 .any ((Rows.OpenSpec.upto Rows.fileReadsSpec).preRow enc Tryz.prog Tryz.f3 Rows.fileReadsUptoRow.domain false Rows.fileReadsUptoRow.laid) (((Rows.OpenSpec.upto Rows.fileReadsSpec).at F).post enc Tryz.prog Tryz.f3 false true false false) := by
  have hx : ∃ ds places, DataW.whole enc Tryz.prog ((World.laidAll Tryz.prog os Rows.fileReadsUptoRow.laid).forCall (fun _ _ => 0) ⟨#[], #[.string .empty, .agg #[.int .i64 0, .int .i64 0, .string .empty, .slice none 0 0, .slice none 0 0]], []⟩).memory Tryz.f3.params.toList Rows.fileReadsSpec.vars false #[Value.string .empty, .agg #[.int .i64 0, .int .i64 0, .string .empty, .slice none 0 0, .slice none 0 0]].toList 8 = some (ds, [], places) ∧
      ds = [.lit (.string []), .agg [.lit (.int .i64 0), .lit (.int .i64 0), .lit (.string []), .nil, .nil]] := ⟨_, [], by kernel_rfl, rfl⟩
  obtain ⟨_, places, hx, rfl⟩ := hx
  refine returnsInHanded_of_row (C := Tryz.checked) (s := Rows.OpenSpec.upto Rows.fileReadsSpec) own started (by kernel_rfl) Tryz.func3
    ⟨World.laidAll Tryz.prog os Rows.fileReadsUptoRow.laid, fun _ _ => 0, ⟨#[], #[.string .empty, .agg #[.int .i64 0, .int .i64 0, .string .empty, .slice none 0 0, .slice none 0 0]], []⟩, World.laidAll_os _ _ _,
      World.shaped_of_ZipB (by kernel_rfl) (by kernel_rfl), rfl, (Input.okWide_of_okWideB (by kernel_rfl)).2,
      OpenSpec.preRow_of_cond 8 hx (by kernel_rfl) (fun k hk => by cases hk; kernel_rfl) (by kernel_rfl) (by rw [MakeChecks.laidMetH_plain _ _ _ (by kernel_rfl)]; exact laidMet_laidAll _ (by kernel_rfl) (by kernel_rfl)),
      by simp only [Assume.holds]; exact ⟨by simp, by simp, fun _ => Modest.zero, by simp, by simp⟩⟩ ?_
  intro W base args ds gs before hval0 hW _ hcond _ hL hsh _
  have hval : ∀ (j : Nat) t v, Tryz.f3.params[j]? = some t → args[j]? = some v → Value.okWide Tryz.prog W .any base t v := hval0
  have hW' := hW
  obtain ⟨p, q, hA0, hV, rfl, hfz, hnd⟩ := hW
  have hA : DataW.TrodAll enc Tryz.prog W 0 (fun _ => true) true Tryz.f3.params.toList args.toList ds p := hA0
  rw [Tryz.params3] at hA hval
  obtain ⟨v0, vs0, d0, ds0, p0, q0, hargs, rfl, rfl, h0, r0⟩ := trodAll_cons hA
  obtain ⟨v1, vs1, d1, ds1, p1, q1, rfl, rfl, rfl, h1, r1⟩ := trodAll_cons r0
  obtain ⟨rfl, rfl, rfl⟩ := trodAll_nil r1
  obtain rfl : args = #[v0, v1] := by cases args; simp_all
  obtain ⟨rfl, rfl⟩ := trodVars_none hV
  have hsz : (Rows.uptoBulk d0 + (Rows.uptoBulk d1 + 0)) ≤ 1048576 := by
    have := hcond _ rfl
    simpa [Rows.uptoSmall, Rows.uptoBulkAll] using this
  have k0 := h0
  have k1 := h1
  have lt0 : ∀ x ∈ p0, x.block < W.heap.size := by obtain ⟨m, hm⟩ := k0; exact DataW.trod_lt m _ _ _ hm
  have lt1 : ∀ x ∈ p1, x.block < W.heap.size := by obtain ⟨m, hm⟩ := k1; exact DataW.trod_lt m _ _ _ hm
  obtain ⟨z0, rfl⟩ := okWide_string Tryz.underlying9 (hval 0 9 v0 rfl rfl)
  obtain ⟨z1, rfl, _⟩ := okWide_struct Tryz.underlying25 (hval 1 25 v1 rfl rfl)
  obtain ⟨m0, x0, o0, w0, g0⟩ := read1B bulk types (by simp) rfl h0
  obtain ⟨n0, e0, b0⟩ := o0.string Tryz.underlying9
  cases e0
  have l0 : n0.length ≤ 1048576 := by simp only [bkD] at g0; omega
  obtain ⟨m1, x1, o1, w1, g1⟩ := j9B bulk types (by simp) h1
  obtain ⟨n1, rfl⟩ := (j9T m1).1 _ o1
  rw [aggV] at w1
  have s1 : bkD n1.d ≤ 1048576 := by rw [j7R]; omega
  have b1 := (bkV n1 1048576 s1).1
  refine ((z5e n0 n1 b1 l0).law (invs hL hsh) (w := W) (vs := #[.string z0, .agg z1]) rfl (fun i y hy => by
    match i, hy with
    | 0, hy => cases hy; exact w0
    | 1, hy => cases hy; exact w1
    | (i + 2), hy => simp at hy)).mono fun e W' ⟨he, bel⟩ => ?_
  subst he
  exact ⟨_, rfl, _, _, _, [], _, [], hW', trodAll_mk1 (shut_bool Tryz.underlying4 _), (trodAll_cons_mk (Below.trod laidOut (by kernel_rfl) (of_decide_eq_true (by kernel_rfl)) k0 bel lt0) (trodAll_cons_mk (Below.trod laidOut (by kernel_rfl) (of_decide_eq_true (by kernel_rfl)) k1 bel lt1) trodAll_mk0)), rfl, bel.frame _, fun h => by cases h⟩

theorem over : Rows.FileReadsUptoSaid :=
  OpenClaim.holds_of_cond 3 Tryz.f3 rfl rfl rfl rfl rfl rfl rfl ⟨rfl, rfl, rfl, rfl, rfl⟩ rfl rfl rfl rfl rfl (by kernel_rfl) Tryz.func3 (by kernel_rfl)
    (of_decide_eq_true (by kernel_rfl)) (by unfold Func.isWrapper; first | (rw [if_pos (by decide +kernel)]; kernel_rfl) | (rw [if_neg (by decide +kernel)]; exact ⟨rfl, rfl⟩))
    (fun os started H enc _ F => by rw [OpenClaim.pre_eq_preRow]; exact lifted os started H enc F)

theorem proved : Rows.FileReadsUptoCardSaid :=
  Claim7.holds_tied_plain_at .later [] [.data, .data, .data, .data, .pinned] true (true, "c84e3d2e3724840925d425e262143c722cdca38f1e5306ef27ea64bd68e68b2c") true
    over (fun _ h => by cases h) (by kernel_rfl) (fun _ h => by cases h) fileReadsUpto_row_tie rfl ⟨rfl, rfl⟩ (by kernel_rfl) rfl
    (fun f fn hf hfn => by
      obtain rfl : f = 3 := Option.some.inj ((show Tryz.prog.funcNamed "foliowright/foliowrightlaw.FileReads" = some 3 by kernel_rfl).symm.trans hf) |>.symm
      obtain rfl : fn = Tryz.f3 := (Option.some.inj (Tryz.func3.symm.trans hfn)).symm
      exact ⟨by kernel_rfl, fun j t ht => by
        rw [Tryz.params3] at ht
        have hm : t ∈ [9, 25] := by
          have h := Array.mem_of_getElem? ht
          simp only [List.mem_toArray, List.mem_cons, List.not_mem_nil, or_false] at h
          rcases h with rfl | rfl <;> simp
        have hall : ([9, 25].all fun u => !Tryz.prog.wantsStandIn u) = true := by kernel_rfl
        exact (show Tryz.prog.wantsStandIn t = false by simpa using List.all_eq_true.1 hall t hm)⟩)
    (by kernel_rfl)
#print axioms proved
end Go.Proofs.YtgfdeebaihmkpaaGreatDoor.fileReadsDone
