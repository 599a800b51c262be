import Derived.Test.YtkkdhgibaimboaaDoorEVal18
import Derived.Test.YtkkdhgibaimboaaDoorAvG
import Derived.LaidOnce
import Derived.SevenTiedAt
import Derived.Stop.Joined
import Derived.Deep.DeepHandedRow
import Derived.Test.YtkkdhgibaimboaaDoorCards
import Derived.Test.YtkkdhgibaimboaaDoorTie
/- Proved: the tied card of the law ValueSays in its second form: whatever values and name come in, of bulk at most 1048576, it returns true, and its arguments read afterwards as they did before. Conditions: none beyond those that the given statement itself names. -/
namespace Go.Proofs.YtkkdhgibaimboaaDoor.valueSaysDone
open Go.ChangeShapes Go.WideShapes Go.ChangeAt Go.RowKit Go.Av Go.Av.Tryd
open Go.ChangeMaps (open_string shut_string)

theorem own : ownKnob Tryd.prog.godebug = none := by kernel_rfl
theorem laidOut : laidOutB Tryd.prog = true := by kernel_rfl
theorem types : okTs Tryd.prog [3, 9, 92, 89, 90, 155] = true := by kernel_rfl

set_option maxRecDepth 100000 in
theorem tab {W : World} (h : laidMetH Tryd.prog Rows.valueSaysUptoRow.laid W) : Lib.TabIs Tryd.prog W "internal/strconv.uint64pow10" .u64 Lib.pow10Tab := by
  rw [MakeChecks.laidMetH_plain _ _ _ (by kernel_rfl)] at h
  have e : (Rows.laid_internal_strconv_uint64pow10 : DataW Unit) = Lib.tabData .u64 Lib.pow10Tab := by kernel_rfl
  exact tab_of (g := 3) (t := 213) (n := 20) (by kernel_rfl) (by kernel_rfl) Tryd.underlying213 Tryd.underlying201 (by kernel_rfl) (by kernel_rfl)
    (by rw [← e]; simp [Rows.valueSaysUptoRow]) h

theorem aggV (v : Val) : D.agg v.d.cells = v.d := by rw [Val.d_eq]; rfl
theorem bkV_agg (v : Val) : bkD v.d = bkL v.d.cells := by rw [Val.d_eq]; simp only [bkD, D.cells]

theorem bulkAll {H : Type} : ∀ l : List (DataW H), Rows.uptoBulkAll l = (l.map Rows.uptoBulk).sum
  | [] => by simp [Rows.uptoBulkAll]
  | x :: r => by simp [Rows.uptoBulkAll, bulkAll r]
theorem bulk {H : Type} : BulkOK (Rows.uptoBulk (H := H)) where
  str bytes := by simp [Rows.uptoBulk]
  lit l := by cases l <;> simp [Rows.uptoBulk]
  nil := by simp [Rows.uptoBulk]
  slice el sp := by simp only [Rows.uptoBulk, bulkAll]; omega
  agg ps := by simp only [Rows.uptoBulk, bulkAll]; omega

set_option maxRecDepth 100000 in
theorem lifted (os : Os) (started : os.Started) (H : Type) (enc : TypeId × Value → H) (F : Stop.Interp) :
    ReturnsInHanded {} Tryd.checked os 9 .any ((Rows.OpenSpec.upto Rows.valueSaysSpec).preRow enc Tryd.prog Tryd.f9 Rows.valueSaysUptoRow.domain false Rows.valueSaysUptoRow.laid) (((Rows.OpenSpec.upto Rows.valueSaysSpec).at F).post enc Tryd.prog Tryd.f9 false true false false) := by
  have hx : ∃ ds places, DataW.whole enc Tryd.prog ((World.laidAll Tryd.prog os Rows.valueSaysUptoRow.laid).forCall (fun _ _ => 0) ⟨#[], #[.agg #[.int .i64 0, .int .i64 0, .string .empty, .slice none 0 0, .slice none 0 0], .agg #[.int .i64 0, .int .i64 0, .string .empty, .slice none 0 0, .slice none 0 0], .string .empty], []⟩).memory Tryd.f9.params.toList Rows.valueSaysSpec.vars false #[Value.agg #[.int .i64 0, .int .i64 0, .string .empty, .slice none 0 0, .slice none 0 0], .agg #[.int .i64 0, .int .i64 0, .string .empty, .slice none 0 0, .slice none 0 0], .string .empty].toList 8 = some (ds, [], places) ∧
      ds = [.agg [.lit (.int .i64 0), .lit (.int .i64 0), .lit (.string []), .nil, .nil], .agg [.lit (.int .i64 0), .lit (.int .i64 0), .lit (.string []), .nil, .nil], .lit (.string [])] := ⟨_, [], by kernel_rfl, rfl⟩
  obtain ⟨_, places, hx, rfl⟩ := hx
  refine returnsInHanded_of_row (C := Tryd.checked) (s := Rows.OpenSpec.upto Rows.valueSaysSpec) own started (by kernel_rfl) Tryd.func9
    ⟨World.laidAll Tryd.prog os Rows.valueSaysUptoRow.laid, fun _ _ => 0, ⟨#[], #[.agg #[.int .i64 0, .int .i64 0, .string .empty, .slice none 0 0, .slice none 0 0], .agg #[.int .i64 0, .int .i64 0, .string .empty, .slice none 0 0, .slice none 0 0], .string .empty], []⟩, World.laidAll_os _ _ _,
      World.shaped_of_ZipB (by kernel_rfl) (by kernel_rfl), rfl, (Input.okWide_of_okWideB (by kernel_rfl)).2,
      OpenSpec.preRow_of_cond 8 hx (by kernel_rfl) (fun k hk => by cases hk; kernel_rfl) (by kernel_rfl) (by rw [MakeChecks.laidMetH_plain _ _ _ (by kernel_rfl)]; exact laidMet_laidAll _ (by kernel_rfl) (by kernel_rfl)),
      by simp only [Assume.holds]; exact ⟨by simp, by simp, fun _ => Modest.zero, by simp, by simp⟩⟩ ?_
  intro W base args ds gs before hval0 hW _ hcond _ hL _ _
  have hval : ∀ (j : Nat) t v, Tryd.f9.params[j]? = some t → args[j]? = some v → Value.okWide Tryd.prog W .any base t v := hval0
  have hW' := hW
  obtain ⟨p, q, hA0, hV, rfl, hfz, hnd⟩ := hW
  have hA : DataW.TrodAll enc Tryd.prog W 0 (fun _ => true) true Tryd.f9.params.toList args.toList ds p := hA0
  rw [Tryd.params9] at hA hval
  obtain ⟨v0, vs0, d0, ds0, p0, q0, hargs, rfl, rfl, h0, r0⟩ := trodAll_cons hA
  obtain ⟨v1, vs1, d1, ds1, p1, q1, rfl, rfl, rfl, h1, r1⟩ := trodAll_cons r0
  obtain ⟨v2, vs2, d2, ds2, p2, q2, rfl, rfl, rfl, h2, r2⟩ := trodAll_cons r1
  obtain ⟨rfl, rfl, rfl⟩ := trodAll_nil r2
  obtain rfl : args = #[v0, v1, v2] := by cases args; simp_all
  obtain ⟨rfl, rfl⟩ := trodVars_none hV
  have hsz : Rows.uptoBulk d0 + (Rows.uptoBulk d1 + (Rows.uptoBulk d2 + 0)) ≤ 1048576 := by
    have := hcond _ rfl
    simpa [Rows.uptoSmall, Rows.uptoBulkAll] using this
  have k0 := h0
  have k1 := h1
  have k2 := h2
  have lt0 : ∀ x ∈ p0, x.block < W.heap.size := by obtain ⟨m, hm⟩ := k0; exact DataW.trod_lt m _ _ _ hm
  have lt1 : ∀ x ∈ p1, x.block < W.heap.size := by obtain ⟨m, hm⟩ := k1; exact DataW.trod_lt m _ _ _ hm
  have lt2 : ∀ x ∈ p2, x.block < W.heap.size := by obtain ⟨m, hm⟩ := k2; exact DataW.trod_lt m _ _ _ hm
  obtain ⟨cs0, rfl, _⟩ := okWide_struct Tryd.underlying92 (hval 0 92 v0 rfl rfl)
  obtain ⟨cs1, rfl, _⟩ := okWide_struct Tryd.underlying92 (hval 1 92 v1 rfl rfl)
  obtain ⟨z2, rfl⟩ := okWide_string Tryd.underlying9 (hval 2 9 v2 rfl rfl)
  obtain ⟨m0, x0, o0, w0, b0⟩ := readSB bulk types (by simp) h0
  obtain ⟨m1, x1, o1, w1, b1⟩ := readSB bulk types (by simp) h1
  obtain ⟨m2, x2, o2, w2⟩ := read1 types (by simp) rfl h2
  obtain ⟨v, rfl⟩ := (val_of m0).1 _ o0
  obtain ⟨o, rfl⟩ := (val_of m1).1 _ o1
  obtain ⟨n2, e2, _⟩ := o2.string Tryd.underlying9
  cases e2
  have s0 : bkD v.d ≤ 1048576 := by rw [bkV_agg]; omega
  have s1 : bkD o.d ≤ 1048576 := by rw [bkV_agg]; omega
  obtain ⟨sv, pv⟩ := bkV v 1048576 s0
  obtain ⟨so, _⟩ := bkV o 1048576 s1
  refine ((valueSays_call v o n2 sv so (by omega)).law (tab hL) (w := W) (vs := #[.agg cs0, .agg cs1, .string z2]) rfl (fun i y hy => by
    match i, hy with
    | 0, hy => cases hy; rw [← aggV]; exact w0
    | 1, hy => cases hy; rw [← aggV]; exact w1
    | 2, hy => cases hy; exact w2
    | (i + 3), hy => simp at hy)).mono fun e W' ⟨he, bel⟩ => ?_
  subst he
  exact ⟨_, rfl, _, _, _, [], _, [], hW', trodAll_mk1 (shut_bool Tryd.underlying4 _), (trodAll_cons_mk (Below.trod laidOut (by kernel_rfl) (of_decide_eq_true (by kernel_rfl)) k0 bel lt0) (trodAll_cons_mk (Below.trod laidOut (by kernel_rfl) (of_decide_eq_true (by kernel_rfl)) k1 bel lt1) (trodAll_cons_mk (Below.trod laidOut (by kernel_rfl) (of_decide_eq_true (by kernel_rfl)) k2 bel lt2) trodAll_mk0))), rfl, bel.frame _, fun h => by cases h⟩

theorem over : Rows.ValueSaysUptoSaid :=
  OpenClaim.holds_of_cond 9 Tryd.f9 rfl rfl rfl rfl rfl rfl rfl ⟨rfl, rfl, rfl, rfl, rfl⟩ rfl rfl rfl rfl rfl (by kernel_rfl) Tryd.func9 (by kernel_rfl)
    (of_decide_eq_true (by kernel_rfl)) (by unfold Func.isWrapper; first | (rw [if_pos (by decide +kernel)]; kernel_rfl) | (rw [if_neg (by decide +kernel)]; exact ⟨rfl, rfl⟩))
    (fun os started H enc _ F => by rw [OpenClaim.pre_eq_preRow]; exact lifted os started H enc F)

theorem proved : Rows.ValueSaysUptoCardSaid :=
  Claim7.holds_tied_plain_at .later [] [.data, .data, .data, .data, .pinned] true (true, "6518c58d7f265abd68587122ba8577672478e2b4be1e5ad0632709d1d2fb216a") true
    over (fun _ h => by cases h) (by kernel_rfl) (fun _ h => by cases h) valueSaysUpto_row_tie rfl ⟨rfl, rfl⟩ (by kernel_rfl) rfl
    (fun f fn hf hfn => by
      obtain rfl : f = 9 := Option.some.inj ((show Tryd.prog.funcNamed "foliowright/foliowrightlaw.ValueSays" = some 9 by kernel_rfl).symm.trans hf) |>.symm
      obtain rfl : fn = Tryd.f9 := (Option.some.inj (Tryd.func9.symm.trans hfn)).symm
      exact ⟨by kernel_rfl, fun j t ht => by
        rw [Tryd.params9] at ht
        have hm : t ∈ [92, 9] := by have := Array.mem_of_getElem? ht; simp at this ⊢; omega
        have hall : ([92, 9].all fun u => !Tryd.prog.wantsStandIn u) = true := by kernel_rfl
        exact (show Tryd.prog.wantsStandIn t = false by simpa using List.all_eq_true.1 hall t hm)⟩)
    (by kernel_rfl)
#print axioms proved
end Go.Proofs.YtkkdhgibaimboaaDoor.valueSaysDone
