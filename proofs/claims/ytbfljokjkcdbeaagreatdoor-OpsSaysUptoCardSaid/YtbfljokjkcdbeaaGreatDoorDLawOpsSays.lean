import Derived.Test.YtbfljokjkcdbeaaGreatDoorWg
import Derived.Test.YtbfljokjkcdbeaaGreatDoorAvG
import Derived.LaidOnce
import Derived.SevenTiedAt
import Derived.Stop.Joined
import Derived.Deep.DeepHandedRow
import Derived.Test.YtbfljokjkcdbeaaGreatDoorCards
import Derived.Test.YtbfljokjkcdbeaaGreatDoorTie
/- Proved: the tied card of the law OpsSays in its second form: whatever text and operators come in, of bulk at most 1048576, it returns true, and its arguments read afterwards as they did before. Conditions: none beyond those that the given statement itself names. -/
namespace Go.Proofs.YtbfljokjkcdbeaaGreatDoor.opsSaysDone
open Go.ChangeShapes Go.WideShapes Go.ChangeAt Go.RowKit Go.Av Go.Av.Tryz
open Go.ChangeMaps (open_string shut_string)

theorem own : ownKnob Tryz.prog.godebug = none := by kernel_rfl
theorem laidOut : laidOutB Tryz.prog = true := by kernel_rfl
theorem types : okTs Tryz.prog [3, 9, 41, 38, 39, 77, 48, 22] = true := by kernel_rfl

set_option maxRecDepth 100000 in
theorem tab {W : World} (h : laidMetH Tryz.prog Rows.opsSaysUptoRow.laid W) : Lib.TabIs Tryz.prog W "internal/strconv.uint64pow10" .u64 Lib.pow10Tab := by
  rw [MakeChecks.laidMetH_plain _ _ _ (by kernel_rfl)] at h
  have e : (Rows.laid_internal_strconv_uint64pow10 : DataW Unit) = Lib.tabData .u64 Lib.pow10Tab := by kernel_rfl
  exact tab_of (g := 1) (t := 147) (n := 20) (by kernel_rfl) (by kernel_rfl) Tryz.underlying147 Tryz.underlying138 (by kernel_rfl) (by kernel_rfl)
    (by rw [← e]; simp [Rows.opsSaysUptoRow]) h

theorem invs {W : World} (hL : laidMetH Tryz.prog Rows.opsSaysUptoRow.laid W) (h : W.ShapedOpen Tryz.prog) : Go.Av.Inv.inv Tryz.prog (front W) W :=
  ⟨fun _ _ => tab hL, fun b hb => by
    obtain ⟨m, hm⟩ := containsLays.s1_3 W h
    obtain rfl : 0 = b := Option.some.inj ((show Tryz.prog.globalNamed "internal/bytealg.MaxLen" = some 0 by kernel_rfl).symm.trans hb)
    exact ⟨m, hm⟩⟩

theorem read1B {H : Type} {enc : TypeId × Value → H} {P : Program} {w : World} {base : Nat} {spare : Nat → Bool} {held : Bool} {bk : DataW H → Nat} (hbk : BulkOK bk) {ts : List TypeId} (hts : okTs P ts = true) {t : TypeId} (ht : t ∈ ts) {v : Value} (hv : v.cells = #[v]) {d : DataW H} {p : List MemPlace} (h : DataW.Trod enc P w base spare held t v d p) :
    ∃ k x, OfT P k t [x] ∧ RD (front w) w x v ∧ bkD x ≤ bk d := by
  obtain ⟨fuel, hf⟩ := h
  obtain ⟨ds, h1, h2, h3, h4, h5, h6⟩ := readTB hbk hts fuel t _ _ ht hf
  rw [hv] at h2 h5
  match ds, h2 with
  | [x], _ => exact ⟨fuel, x, h1, h5 0 x v rfl rfl, by simpa [bkL] using h6⟩

theorem bulkAll {H : Type} : ∀ l : List (DataW H), Rows.uptoBulkAll l = (l.map Rows.uptoBulk).sum
  | [] => by simp [Rows.uptoBulkAll]
  | x :: r => by simp [Rows.uptoBulkAll, bulkAll r]
theorem bulk {H : Type} : BulkOK (Rows.uptoBulk (H := H)) where
  str bytes := by simp [Rows.uptoBulk]
  lit l := by cases l <;> simp [Rows.uptoBulk]
  nil := by simp [Rows.uptoBulk]
  slice el sp := by simp only [Rows.uptoBulk, bulkAll]; omega
  agg ps := by simp only [Rows.uptoBulk, bulkAll]; omega

set_option maxRecDepth 100000 in
theorem lifted (os : Os) (started : os.Started) (H : Type) (enc : TypeId × Value → H) (F : Stop.Interp) :
    ReturnsInHanded {} Tryz.checked os 3 .any ((Rows.OpenSpec.upto Rows.opsSaysSpec).preRow enc Tryz.prog Tryz.f3 Rows.opsSaysUptoRow.domain false Rows.opsSaysUptoRow.laid) (((Rows.OpenSpec.upto Rows.opsSaysSpec).at F).post enc Tryz.prog Tryz.f3 false true false false) := by
  have hx : ∃ ds places, DataW.whole enc Tryz.prog ((World.laidAll Tryz.prog os Rows.opsSaysUptoRow.laid).forCall (fun _ _ => 0) ⟨#[], #[.string .empty, .slice none 0 0], []⟩).memory Tryz.f3.params.toList Rows.opsSaysSpec.vars false #[Value.string .empty, .slice none 0 0].toList 8 = some (ds, [], places) ∧
      ds = [.lit (.string []), .nil] := ⟨_, [], by kernel_rfl, rfl⟩
  obtain ⟨_, places, hx, rfl⟩ := hx
  refine returnsInHanded_of_row (C := Tryz.checked) (s := Rows.OpenSpec.upto Rows.opsSaysSpec) own started (by kernel_rfl) Tryz.func3
    ⟨World.laidAll Tryz.prog os Rows.opsSaysUptoRow.laid, fun _ _ => 0, ⟨#[], #[.string .empty, .slice none 0 0], []⟩, World.laidAll_os _ _ _,
      World.shaped_of_ZipB (by kernel_rfl) (by kernel_rfl), rfl, (Input.okWide_of_okWideB (by kernel_rfl)).2,
      OpenSpec.preRow_of_cond 8 hx (by kernel_rfl) (fun k hk => by cases hk; kernel_rfl) (by kernel_rfl) (by rw [MakeChecks.laidMetH_plain _ _ _ (by kernel_rfl)]; exact laidMet_laidAll _ (by kernel_rfl) (by kernel_rfl)),
      by simp only [Assume.holds]; exact ⟨by simp, by simp, fun _ => Modest.zero, by simp, by simp⟩⟩ ?_
  intro W base args ds gs before hval0 hW _ hcond _ hL hsh _
  have hval : ∀ (j : Nat) t v, Tryz.f3.params[j]? = some t → args[j]? = some v → Value.okWide Tryz.prog W .any base t v := hval0
  have hW' := hW
  obtain ⟨p, q, hA0, hV, rfl, hfz, hnd⟩ := hW
  have hA : DataW.TrodAll enc Tryz.prog W 0 (fun _ => true) true Tryz.f3.params.toList args.toList ds p := hA0
  rw [Tryz.params3] at hA hval
  obtain ⟨v0, vs0, d0, ds0, p0, q0, hargs, rfl, rfl, h0, r0⟩ := trodAll_cons hA
  obtain ⟨v1, vs1, d1, ds1, p1, q1, rfl, rfl, rfl, h1, r1⟩ := trodAll_cons r0
  obtain ⟨rfl, rfl, rfl⟩ := trodAll_nil r1
  obtain rfl : args = #[v0, v1] := by cases args; simp_all
  obtain ⟨rfl, rfl⟩ := trodVars_none hV
  have hsz : Rows.uptoBulk d0 + (Rows.uptoBulk d1 + 0) ≤ 1048576 := by
    have := hcond _ rfl
    simpa [Rows.uptoSmall, Rows.uptoBulkAll] using this
  have k0 := h0
  have k1 := h1
  have lt0 : ∀ x ∈ p0, x.block < W.heap.size := by obtain ⟨m, hm⟩ := k0; exact DataW.trod_lt m _ _ _ hm
  have lt1 : ∀ x ∈ p1, x.block < W.heap.size := by obtain ⟨m, hm⟩ := k1; exact DataW.trod_lt m _ _ _ hm
  obtain ⟨z0, rfl⟩ := okWide_string Tryz.underlying9 (hval 0 9 v0 rfl rfl)
  obtain ⟨a1, len1, cap1, rfl⟩ := okWide_slice Tryz.underlying22 (hval 1 22 v1 rfl rfl)
  obtain ⟨m0, x0, o0, w0⟩ := read1 types (by simp) rfl h0
  obtain ⟨m1, x1, o1, w1, b1⟩ := read1B bulk types (by simp) rfl h1
  obtain ⟨n0, e0, _⟩ := o0.string Tryz.underlying9
  cases e0
  obtain ⟨l, e1⟩ := ops_of o1
  cases e1
  obtain ⟨s1, s2⟩ := opsIn_of (l := l) (by omega)
  refine ((opsSays_call n0 l s1 s2).law (invs hL hsh) (w := W) (vs := #[.string z0, .slice a1 len1 cap1]) rfl (fun i y hy => by
    match i, hy with
    | 0, hy => cases hy; exact w0
    | 1, hy => cases hy; exact w1
    | (i + 2), hy => simp at hy)).mono fun e W' ⟨he, bel⟩ => ?_
  subst he
  exact ⟨_, rfl, _, _, _, [], _, [], hW', trodAll_mk1 (shut_bool Tryz.underlying4 _), (trodAll_cons_mk (Below.trod laidOut (by kernel_rfl) (of_decide_eq_true (by kernel_rfl)) k0 bel lt0) (trodAll_cons_mk (Below.trod laidOut (by kernel_rfl) (of_decide_eq_true (by kernel_rfl)) k1 bel lt1) trodAll_mk0)), rfl, bel.frame _, fun h => by cases h⟩

theorem over : Rows.OpsSaysUptoSaid :=
  OpenClaim.holds_of_cond 3 Tryz.f3 rfl rfl rfl rfl rfl rfl rfl ⟨rfl, rfl, rfl, rfl, rfl⟩ rfl rfl rfl rfl rfl (by kernel_rfl) Tryz.func3 (by kernel_rfl)
    (of_decide_eq_true (by kernel_rfl)) (by unfold Func.isWrapper; first | (rw [if_pos (by decide +kernel)]; kernel_rfl) | (rw [if_neg (by decide +kernel)]; exact ⟨rfl, rfl⟩))
    (fun os started H enc _ F => by rw [OpenClaim.pre_eq_preRow]; exact lifted os started H enc F)

theorem proved : Rows.OpsSaysUptoCardSaid :=
  Claim7.holds_tied_plain_at .later [] [.data, .data, .data, .data, .pinned] true (true, "1118454d2801b818ec50756cc91d02201a20d2ff112b2c27330bcbc2acb9a08d") true
    over (fun _ h => by cases h) (by kernel_rfl) (fun _ h => by cases h) opsSaysUpto_row_tie rfl ⟨rfl, rfl⟩ (by kernel_rfl) rfl
    (fun f fn hf hfn => by
      obtain rfl : f = 3 := Option.some.inj ((show Tryz.prog.funcNamed "foliowright/foliowrightlaw.OpsSays" = some 3 by kernel_rfl).symm.trans hf) |>.symm
      obtain rfl : fn = Tryz.f3 := (Option.some.inj (Tryz.func3.symm.trans hfn)).symm
      exact ⟨by kernel_rfl, fun j t ht => by
        rw [Tryz.params3] at ht
        have hm : t ∈ [9, 22] := by have := Array.mem_of_getElem? ht; simp at this ⊢; omega
        have hall : ([9, 22].all fun u => !Tryz.prog.wantsStandIn u) = true := by kernel_rfl
        exact (show Tryz.prog.wantsStandIn t = false by simpa using List.all_eq_true.1 hall t hm)⟩)
    (by kernel_rfl)
#print axioms proved
end Go.Proofs.YtbfljokjkcdbeaaGreatDoor.opsSaysDone
