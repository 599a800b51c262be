import Derived.Test.YtccakidkdefioaaWc
import Derived.Test.YtccakidkdefioaaWd
import Derived.Test.YtccakidkdefioaaAvG
import Derived.LaidOnce
import Derived.SevenTiedAt
import Derived.Stop.Joined
import Derived.Deep.DeepHandedRow
import Derived.HandedShaped
import Derived.Test.YtccakidkdefioaaRows
/- Proved: whatever comes in, of bulk at most 1048576, the law LayoutSays returns true, and its arguments read afterwards as they did before. Conditions: none beyond those that the given statement itself names. -/
namespace Go.Proofs.Ytccakidkdefioaa.layoutSaysDone
open Go.ChangeShapes Go.WideShapes Go.ChangeAt Go.RowKit Go.Av Go.Av.Try
open Go.ChangeMaps (open_string shut_string)
set_option maxRecDepth 100000

theorem own : ownKnob Try.prog.godebug = none := by kernel_rfl
theorem laidOut : laidOutB Try.prog = true := by kernel_rfl
theorem types : okTs Try.prog [3, 4, 9, 22, 44, 40, 42] = true := by kernel_rfl
theorem no1 : Try.prog.globalNamed "internal/strconv.uint64pow10" = none := by kernel_rfl
theorem no2 : Try.prog.globalNamed "internal/bytealg.MaxLen" = none := by kernel_rfl
theorem no3 : Try.prog.globalNamed "unicode/utf8.first" = none := by kernel_rfl
theorem no4 : Try.prog.globalNamed "unicode/utf8.acceptRanges" = none := by kernel_rfl
theorem invs {W : World} : Go.Av.Inv.inv Try.prog (front W) W :=
  ⟨fun b hb => (by rw [no1] at hb; cases hb), fun b hb => (by rw [no2] at hb; cases hb), fun a b ha => (by rw [no3] at ha; cases ha), fun b hb => hb.elim (fun hb => by rw [no3] at hb; cases hb) fun hb => by rw [no4] at hb; cases hb⟩
theorem read1B {H : Type} {enc : TypeId × Value → H} {P : Program} {w : World} {base : Nat} {spare : Nat → Bool} {held : Bool} {bk : DataW H → Nat} (hbk : BulkOK bk) {ts : List TypeId} (hts : okTs P ts = true) {t : TypeId} (ht : t ∈ ts) {v : Value} (hv : v.cells = #[v]) {d : DataW H} {p : List MemPlace} (h : DataW.Trod enc P w base spare held t v d p) :
    ∃ k x, OfT P k t [x] ∧ RD (front w) w x v ∧ bkD x ≤ bk d := by
  obtain ⟨fuel, hf⟩ := h
  obtain ⟨ds, h1, h2, h3, h4, h5, h6⟩ := readTB hbk hts fuel t _ _ ht hf
  rw [hv] at h2 h5
  match ds, h2 with
  | [x], _ => exact ⟨fuel, x, h1, h5 0 x v rfl rfl, by simpa [bkL] using h6⟩
theorem bulkAll {H : Type} : ∀ l : List (DataW H), Rows.uptoBulkAll l = (l.map Rows.uptoBulk).sum
  | [] => by simp [Rows.uptoBulkAll]
  | x :: r => by simp [Rows.uptoBulkAll, bulkAll r]
theorem bulk {H : Type} : BulkOK (Rows.uptoBulk (H := H)) where
  str bytes := by simp [Rows.uptoBulk]
  lit l := by cases l <;> simp [Rows.uptoBulk]
  map es := by simp [Rows.uptoBulk]
  nil := by simp [Rows.uptoBulk]
  slice el sp := by simp only [Rows.uptoBulk, bulkAll]; omega
  agg ps := by simp only [Rows.uptoBulk, bulkAll]; omega

theorem lifted (os : Os) (started : os.Started) (H : Type) (enc : TypeId × Value → H) (F : Stop.Interp) :
    ReturnsInHanded {} Try.checked os 3 .any ((Rows.OpenSpec.upto Rows.layoutSaysSpec).preRow enc Try.prog Try.f3 Rows.layoutSaysUptoRow.domain false Rows.layoutSaysUptoRow.laid) (((Rows.OpenSpec.upto Rows.layoutSaysSpec).at F).post enc Try.prog Try.f3 false true false false) := by
  have hx : ∃ ds places, DataW.whole enc Try.prog ((World.laidAll Try.prog os Rows.layoutSaysUptoRow.laid).forCall (fun _ _ => 0) ⟨#[], #[.slice none 0 0], []⟩).memory Try.f3.params.toList Rows.layoutSaysSpec.vars false #[Value.slice none 0 0].toList 8 = some (ds, [], places) ∧
      ds = [.nil] := ⟨_, [], by kernel_rfl, rfl⟩
  obtain ⟨_, places, hx, rfl⟩ := hx
  refine returnsInHanded_of_row (C := Try.checked) (s := Rows.OpenSpec.upto Rows.layoutSaysSpec) own started (by kernel_rfl) Try.func3
    ⟨World.laidAll Try.prog os Rows.layoutSaysUptoRow.laid, fun _ _ => 0, ⟨#[], #[.slice none 0 0], []⟩, World.laidAll_os _ _ _,
      World.shaped_of_ZipB (by kernel_rfl) (by kernel_rfl), rfl, (Input.okWide_of_okWideB (by kernel_rfl)).2,
      OpenSpec.preRow_of_cond 8 hx (by kernel_rfl) (fun k hk => by cases hk; kernel_rfl) (by kernel_rfl) (by rw [MakeChecks.laidMetH_plain _ _ _ (by kernel_rfl)]; exact laidMet_laidAll _ (by kernel_rfl) (by kernel_rfl)),
      by simp only [Assume.holds]; exact ⟨by simp, by simp, fun _ => Modest.zero, by simp, by simp⟩⟩ ?_
  intro W base args ds gs before hval0 hW _ hcond _ hL hsh _
  have hval : ∀ (j : Nat) t v, Try.f3.params[j]? = some t → args[j]? = some v → Value.okWide Try.prog W .any base t v := hval0
  have hW' := hW
  obtain ⟨p, q, hA0, hV, rfl, hfz, hnd⟩ := hW
  have hA : DataW.TrodAll enc Try.prog W 0 (fun _ => true) true Try.f3.params.toList args.toList ds p := hA0
  rw [Try.params3] at hA hval
  obtain ⟨v0, vs0, d0, ds0, p0, q0, hargs, rfl, rfl, h0, r0⟩ := trodAll_cons hA
  obtain ⟨rfl, rfl, rfl⟩ := trodAll_nil r0
  obtain rfl : args = #[v0] := by cases args; simp_all
  obtain ⟨rfl, rfl⟩ := trodVars_none hV
  have hsz : Rows.uptoBulk d0 + 0 ≤ 1048576 := by
    have := hcond _ rfl
    simpa [Rows.uptoSmall, Rows.uptoBulkAll] using this
  have k0 := h0
  have lt0 : ∀ x ∈ p0, x.block < W.heap.size := by obtain ⟨m, hm⟩ := k0; exact DataW.trod_lt m _ _ _ hm
  obtain ⟨a0, len0, cap0, rfl⟩ := okWide_slice Try.underlying22 (hval 0 22 v0 rfl rfl)
  obtain ⟨m0, x0, o0, w0, c0⟩ := read1B bulk types (by simp) rfl h0
  obtain ⟨n0, e0, b0⟩ := gls_of o0
  cases e0
  have s0 := gls_small (l := n0) (by omega)
  refine ((layoutSays_call n0 (by have := b0; unfold maxLen at this; omega) s0).law invs (w := W) (vs := #[.slice a0 len0 cap0]) rfl (fun i y hy => by
    match i, hy with
    | 0, hy => cases hy; exact w0
    | (i + 1), hy => simp at hy)).mono fun e W' ⟨he, bel⟩ => ?_
  subst he
  exact ⟨_, rfl, _, _, _, [], _, [], hW', trodAll_mk1 (shut_bool Try.underlying4 _), (trodAll_cons_mk (Below.trod laidOut (by kernel_rfl) (of_decide_eq_true (by kernel_rfl)) k0 bel lt0) trodAll_mk0), rfl, bel.frame _, fun h => by cases h⟩

theorem over : Rows.LayoutSaysUptoSaid :=
  OpenClaim.holds_of_cond 3 Try.f3 rfl rfl rfl rfl rfl rfl rfl ⟨rfl, rfl, rfl, rfl, rfl⟩ rfl rfl rfl rfl rfl (by kernel_rfl) Try.func3 (by kernel_rfl)
    (of_decide_eq_true (by kernel_rfl)) (by unfold Func.isWrapper; first | (rw [if_pos (by decide +kernel)]; kernel_rfl) | (rw [if_neg (by decide +kernel)]; exact ⟨rfl, rfl⟩))
    (fun os started H enc _ F => by rw [OpenClaim.pre_eq_preRow]; exact lifted os started H enc F)

theorem proved : Rows.LayoutSaysUptoSaid := over
#print axioms proved
end Go.Proofs.Ytccakidkdefioaa.layoutSaysDone
