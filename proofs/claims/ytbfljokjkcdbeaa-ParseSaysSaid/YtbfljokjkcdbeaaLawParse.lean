import Derived.Test.YtbfljokjkcdbeaaPLaw
import Derived.Test.YtbfljokjkcdbeaaAvF
import Derived.HandedShaped
import Derived.Test.YtbfljokjkcdbeaaRows
/- Proved: whatever comes in, the law ParseSays returns true, and its arguments read afterwards as they did before. Conditions: none beyond those that the given statement itself names. -/
namespace Go.Proofs.Ytbfljokjkcdbeaa.parseSaysDone
open Go.ChangeShapes Go.WideShapes Go.ChangeAt Go.RowKit Go.Av Go.Av.Try
open Go.ChangeMaps (open_string shut_string)

theorem own : ownKnob Try.prog.godebug = none := by kernel_rfl
theorem laidOut : laidOutB Try.prog = true := by kernel_rfl
theorem types : okTs Try.prog [9, 3] = true := by kernel_rfl

theorem notab : Try.prog.globalNamed "internal/strconv.uint64pow10" = none := by kernel_rfl
theorem invs {W : World} (h : W.ShapedOpen Try.prog) : Go.Av.Inv.inv Try.prog (front W) W :=
  ⟨fun b hb => (by rw [notab] at hb; cases hb), fun b hb => by
    obtain ⟨m, hm⟩ := containsLays.s1_3 W h
    obtain rfl : 0 = b := Option.some.inj ((show Try.prog.globalNamed "internal/bytealg.MaxLen" = some 0 by kernel_rfl).symm.trans hb)
    exact ⟨m, hm⟩⟩


set_option maxRecDepth 100000 in
theorem lifted (os : Os) (started : os.Started) (H : Type) (enc : TypeId × Value → H) :
    ReturnsInHanded {} Try.checked os 4 .any (Rows.parseSaysSpec.pre6 enc Try.prog Try.f4 Rows.parseSaysRow.domain false) (Rows.parseSaysSpec.post enc Try.prog Try.f4 false true false false) := by
  refine returnsInHanded_of_change_shaped (C := Try.checked) own started (by kernel_rfl) Try.func4
    (ChangeSpec.witness6 (enc := enc) (C := Try.checked) false ⟨#[], #[.string .empty, .int .i64 0], []⟩ 8 (by kernel_rfl) (by kernel_rfl) (by kernel_rfl) (by kernel_rfl)) ?_
  intro W base args ds gs before hval0 hW hcnd _ hsh _
  have hval : ∀ (j : Nat) t v, Try.f4.params[j]? = some t → args[j]? = some v → Value.okWide Try.prog W .any base t v := hval0
  have hW' := hW
  obtain ⟨p, q, hA0, hV, rfl, hfz, hnd⟩ := hW
  have hA : DataW.TrodAll enc Try.prog W 0 (fun _ => true) true Try.f4.params.toList args.toList ds p := hA0
  rw [Try.params4] at hA hval
  obtain ⟨v0, vs0, d0, ds0, p0, q0, hargs, rfl, rfl, h0, r0⟩ := trodAll_cons hA
  obtain ⟨v1, vs1, d1, ds1, p1, q1, rfl, rfl, rfl, h1, r1⟩ := trodAll_cons r0
  obtain ⟨rfl, rfl, rfl⟩ := trodAll_nil r1
  obtain rfl : args = #[v0, v1] := by cases args; simp_all
  obtain ⟨rfl, rfl⟩ := trodVars_none hV
  have k0 := h0
  have k1 := h1
  have lt0 : ∀ x ∈ p0, x.block < W.heap.size := by obtain ⟨m, hm⟩ := k0; exact DataW.trod_lt m _ _ _ hm
  have lt1 : ∀ x ∈ p1, x.block < W.heap.size := by obtain ⟨m, hm⟩ := k1; exact DataW.trod_lt m _ _ _ hm
  obtain ⟨z0, rfl⟩ := okWide_string Try.underlying9 (hval 0 9 v0 rfl rfl)
  obtain ⟨z1, rfl⟩ := okWide_int Try.underlying3 (hval 1 3 v1 rfl rfl)
  obtain ⟨m0, x0, o0, w0⟩ := read1 types (by simp) rfl h0
  obtain ⟨m1, x1, o1, w1⟩ := read1 types (by simp) rfl h1
  obtain ⟨n0, e0, b0⟩ := o0.string Try.underlying9
  cases e0
  obtain ⟨n1, e1, b1⟩ := o1.int Try.underlying3
  cases e1

  refine ((parseSays_call n0 n1).law (invs hsh) (w := W) (vs := #[.string z0, .int .i64 z1]) rfl (fun i y hy => by
    match i, hy with
    | 0, hy => cases hy; exact w0
    | 1, hy => cases hy; exact w1
    | (i + 2), hy => simp at hy)).mono fun e W' ⟨he, bel⟩ => ?_
  subst he
  exact ⟨_, rfl, _, _, _, [], _, [], hW', trodAll_mk1 (shut_bool Try.underlying4 _), (trodAll_cons_mk (Below.trod laidOut (by kernel_rfl) (of_decide_eq_true (by kernel_rfl)) k0 bel lt0) (trodAll_cons_mk (Below.trod laidOut (by kernel_rfl) (of_decide_eq_true (by kernel_rfl)) k1 bel lt1) trodAll_mk0)), rfl, bel.frame _, fun h => by cases h⟩

theorem over : Rows.parseSaysRow.holds Try.pinned (OpenSpec.ofChange Rows.parseSaysSpec) :=
  OpenClaim.holds_of_wide 4 Try.f4 rfl rfl rfl rfl rfl rfl rfl ⟨rfl, rfl, rfl, rfl, rfl⟩ rfl rfl rfl rfl rfl (by kernel_rfl) Try.func4 (by kernel_rfl)
    (of_decide_eq_true (by kernel_rfl)) (by unfold Func.isWrapper; first | (rw [if_pos (by decide +kernel)]; kernel_rfl) | (rw [if_neg (by decide +kernel)]; exact ⟨rfl, rfl⟩))
    (fun os started H enc _ => lifted os started H enc)

theorem proved : Rows.ParseSaysSaid := over
#print axioms proved
end Go.Proofs.Ytbfljokjkcdbeaa.parseSaysDone
