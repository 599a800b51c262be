import Derived.Test.YtbfljokjkcdbeaaEVal2
import Derived.Test.YtbfljokjkcdbeaaDFix
/- Values of a file: which ones are well. -/
set_option linter.unusedSimpArgs false
namespace Go.Av.Try
open Go.Proofs

/-- slices.IndexFunc[[]foliowright/api.Value,foliowright/api.Value] -/
def L_slices_IndexFunc___foliowright_api_Value_foliowright_api_Value_ : LCode :=
  .seq (.reg [⟨some 4, .asg (.k (.d (.int .i64 0))), none⟩]) (.seq (.seq (.reg [⟨some 6, .val (.cp (.t 0)), none⟩, ⟨some 7, .val (.len false (.t 6)), none⟩, ⟨some 8, .val (.cp (.k 
  (.d (.int .i64 0)))), none⟩]) (.block 0 (.loop (.seq (.reg [⟨some 9, .val (.bin .lss (.t 8) (.t 7)), none⟩]) (.seq (.cond (.t 9) .skip (.exit 0)) (.seq (.block 1 (.seq (.reg 
  [⟨some 10, .val (.cp (.t 8)), none⟩, ⟨some 5, .asg (.t 10), none⟩]) (.seq (.reg [⟨some 11, .val (.cp (.t 1)), none⟩, ⟨some 12, .val (.cp (.t 0)), none⟩, ⟨some 13, .val (.cp (.t 
  5)), none⟩, ⟨some 14, .val (.ia 5 (.t 12) (.t 13)), none⟩, ⟨some 15, .val (.ld true 5 (.t 14)), none⟩, ⟨some 16, .prim .call [.t 11, .t 15] [], none⟩]) (.cond (.t 16) (.seq (.reg 
  [⟨some 17, .val (.cp (.t 5)), none⟩, ⟨some 4, .asg (.t 17), none⟩]) .ret) .skip)))) (.reg [⟨some 18, .val (.bin .add (.t 8) (.k (.d (.int .i64 1)))), none⟩, ⟨some 8, .val (.cp 
  (.t 18)), none⟩]))))))) (.seq (.reg [⟨some 4, .asg (.k (.d (.int .i64 (-1)))), none⟩]) .ret))
def R_slices_IndexFunc___foliowright_api_Value_foliowright_api_Value_ : List LRes := [.tmp 4]
theorem lift_slices_IndexFunc___foliowright_api_Value_foliowright_api_Value_ : Lifts Try.prog 106 19 L_slices_IndexFunc___foliowright_api_Value_foliowright_api_Value_ R_slices_IndexFunc___foliowright_api_Value_foliowright_api_Value_ := ⟨_, _, Try.func106, rfl, by kernel_rfl, by kernel_rfl, rfl⟩

theorem indexFunc_call (g : Nat) (hg : callOk Try.prog g = true) (l : List Val) (hl : l.length ≤ 1000000000) (p : Val → Bool) (hp : ∀ x ∈ l, PCall Try.prog g [x.d] (fun r => r = .one (.bool (p x)))) :
    MCallE Try.prog 106 [.d (.list (valsD l)), .fn (.func g) [] []] [] (.d (.int .i64 (match l.findIdx? p with | some i => (i : Int) | none => -1))) [] := by
  have hll := valsD_length l
  refine lift_slices_IndexFunc___foliowright_api_Value_foliowright_api_Value_.mcall (by kernel_rfl) rfl ?_
  simp (maxSteps := 2000000) only [go_sem, ↓reduceIte, L_slices_IndexFunc___foliowright_api_Value_foliowright_api_Value_, R_slices_IndexFunc___foliowright_api_Value_foliowright_api_Value_]
  refine run_loop (fun i : Nat => ⟨[(0, .d (.list (valsD l))), (1, .fn (.func g) [] []), (7, .d (.int .i64 (valsD l).length)), (8, .d (.int .i64 i))], [], []⟩)
    (fun i => i ≤ l.length ∧ ∀ j, j < i → ∀ x, l[j]? = some x → p x = false) (fun i => l.length - i) 0 ?_ ?_ ?_
  · refine Weak.mk ?_ ?_ ?_ <;> simp (maxSteps := 2000000) only [go_sem, ↓reduceIte, Sub, Int.natCast_add, Int.natCast_mul]
  · exact ⟨by simp, fun j hj => absurd hj (by simp)⟩
  · rintro i ⟨hi, hn⟩
    simp (maxSteps := 2000000) only [go_sem, ↓reduceIte, hll]
    refine ⟨fun hlt => ?_, fun hge => ?_⟩
    · obtain ⟨x, hx⟩ := get_some (l := l) (i := i) (by omega)
      have hc := (hp x (List.mem_of_getElem? hx)).mcallE hg
      simp only [List.map_cons, List.map_nil, Res.av] at hc
      rw [Val.d_eq] at hc
      simp (maxSteps := 2000000) (disch := omega) only [go_sem, ↓reduceIte, getI_nat, valsD_get, hx, Val.d_eq]
      refine PrimG.mcall ([]) ([]) rfl (hc) rfl rfl (by simp only [objsAt, St.obj, aget, AObj.ren, AV.ren, AV.ren1, renL, ren1L, renR, renQ, List.getD_cons_zero, List.getD_cons_succ, and_true, and_self, Nat.reduceEqDiff, ↓reduceIte, reduceCtorEq]) rfl rfl rfl ⟨rfl, rfl⟩ ?_
      cases hpx : p x
      · simp (maxSteps := 2000000) (disch := omega) only [go_sem, ↓reduceIte]
        refine ⟨i + 1, ?_, ⟨by omega, fun j hj y hy => ?_⟩, by omega⟩
        · refine Weak.mk ?_ ?_ ?_ <;> simp (maxSteps := 2000000) only [go_sem, ↓reduceIte, Sub, Int.natCast_add, Int.natCast_mul, hll]
        · rcases Nat.lt_or_ge j i with h | h
          · exact hn j h y hy
          · have : j = i := by omega
            subst this
            rw [hx] at hy; cases hy; exact hpx
      · simp (maxSteps := 2000000) only [go_sem, ↓reduceIte]
        have : l.findIdx? p = some i := by
          rw [List.findIdx?_eq_some_iff_getElem]
          obtain ⟨h1, h2⟩ := List.getElem?_eq_some_iff.1 hx
          refine ⟨h1, by rw [h2]; exact hpx, fun j hj => ?_⟩
          have := hn j hj _ (List.getElem?_eq_getElem (by omega))
          simp [this]
        rw [this]
    · have : l.findIdx? p = none := by
        rw [List.findIdx?_eq_none_iff]
        intro x hx
        obtain ⟨j, hj⟩ := List.getElem?_of_mem hx
        exact hn j (by have := (List.getElem?_eq_some_iff.1 hj).1; omega) x hj
      rw [this]

/-- slices.ContainsFunc[[]foliowright/api.Value,foliowright/api.Value] -/
def L_slices_ContainsFunc___foliowright_api_Value_foliowright_api_Value_ : LCode :=
  .seq (.reg [⟨some 4, .asg (.k (.d (.bool false))), none⟩]) (.seq (.reg [⟨some 5, .val (.cp (.t 0)), none⟩, ⟨some 6, .val (.cp (.t 1)), none⟩, ⟨some 7, .prim .call [.k (.fn (.func 
  106) [] []), .t 5, .t 6] [], none⟩, ⟨some 8, .val (.bin .geq (.t 7) (.k (.d (.int .i64 0)))), none⟩, ⟨some 4, .asg (.t 8), none⟩]) .ret)
def R_slices_ContainsFunc___foliowright_api_Value_foliowright_api_Value_ : List LRes := [.tmp 4]
theorem lift_slices_ContainsFunc___foliowright_api_Value_foliowright_api_Value_ : Lifts Try.prog 89 9 L_slices_ContainsFunc___foliowright_api_Value_foliowright_api_Value_ R_slices_ContainsFunc___foliowright_api_Value_foliowright_api_Value_ := ⟨_, _, Try.func89, rfl, by kernel_rfl, by kernel_rfl, rfl⟩

theorem containsFunc_call (g : Nat) (hg : callOk Try.prog g = true) (l : List Val) (hl : l.length ≤ 1000000000) (p : Val → Bool) (hp : ∀ x ∈ l, PCall Try.prog g [x.d] (fun r => r = .one (.bool (p x)))) :
    MCallE Try.prog 89 [.d (.list (valsD l)), .fn (.func g) [] []] [] (.d (.bool (l.any p))) [] := by
  have hany : (match l.findIdx? p with | some i => decide (0 ≤ (i : Int)) | none => false) = l.any p := by
    cases h : l.findIdx? p with
    | none =>
      rw [List.findIdx?_eq_none_iff] at h
      simp only [Bool.false_eq]
      rw [List.any_eq_false]
      exact fun x hx => by simp [h x hx]
    | some i =>
      rw [List.findIdx?_eq_some_iff_getElem] at h
      obtain ⟨h1, h2, _⟩ := h
      have : l.any p = true := List.any_eq_true.2 ⟨_, List.getElem_mem h1, h2⟩
      rw [this]; simp
  refine lift_slices_ContainsFunc___foliowright_api_Value_foliowright_api_Value_.mcall (by kernel_rfl) rfl ?_
  simp (maxSteps := 2000000) only [go_sem, ↓reduceIte, L_slices_ContainsFunc___foliowright_api_Value_foliowright_api_Value_, R_slices_ContainsFunc___foliowright_api_Value_foliowright_api_Value_]
  refine PrimG.mcall ([]) ([]) rfl (indexFunc_call g hg l hl p hp) rfl rfl (by simp only [objsAt, St.obj, aget, AObj.ren, AV.ren, AV.ren1, renL, ren1L, renR, renQ, List.getD_cons_zero, List.getD_cons_succ, and_true, and_self, Nat.reduceEqDiff, ↓reduceIte, reduceCtorEq]) rfl rfl rfl ⟨rfl, rfl⟩ ?_
  simp (maxSteps := 2000000) only [go_sem, ↓reduceIte]
  rw [← hany]
  cases l.findIdx? p <;> simp
end Go.Av.Try
