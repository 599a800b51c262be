import Derived.Test.YtbfljokjkcdbeaaEVal6
/- Values of a file: which are alike. -/
set_option linter.unusedSimpArgs false
namespace Go.Av.Try
open Go.Proofs

/-- Two lists, part by part. -/
def eqB {α : Type} (p : α → α → Bool) : List α → List α → Bool
  | [], [] => true
  | x :: r, y :: s => p x y && eqB p r s
  | _, _ => false
theorem eqB_len {α : Type} {p : α → α → Bool} : ∀ {a b : List α}, ¬ a.length = b.length → eqB p a b = false
  | [], [], h => absurd rfl h
  | [], _ :: _, _ => rfl
  | _ :: _, [], _ => rfl
  | x :: r, y :: s, h => by
    have : eqB p r s = false := eqB_len (by simpa using h)
    simp [eqB, this]
theorem eqB_nil {α : Type} {p : α → α → Bool} {a b : List α} (ha : a = []) (hb : b = []) : eqB p a b = true := by subst ha; subst hb; rfl

mutual
def alikeV : Val → Val → Bool
  | .mk k n s l f, .mk k' n' s' l' f' => decide (k = k') && (decide (n = n') && (decide (s = s') && (alikeL l l' && alikeF f f')))
def alikeL : List Val → List Val → Bool
  | [], [] => true
  | x :: r, y :: s => alikeV x y && alikeL r s
  | _, _ => false
def alikeF : List Fld → List Fld → Bool
  | [], [] => true
  | .mk nm x :: r, .mk nm' y :: s => (decide (nm = nm') && alikeV x y) && alikeF r s
  | _, _ => false
end
def alikeX (x y : Fld) : Bool := decide (x.name = y.name) && alikeV x.v y.v
theorem alikeL_eq : ∀ (a b : List Val), alikeL a b = eqB alikeV a b
  | [], [] => rfl
  | [], _ :: _ => rfl
  | _ :: _, [] => rfl
  | x :: r, y :: s => by simp only [alikeL, eqB, alikeL_eq r s]
theorem alikeF_eq : ∀ (a b : List Fld), alikeF a b = eqB alikeX a b
  | [], [] => rfl
  | [], _ :: _ => rfl
  | .mk _ _ :: _, [] => rfl
  | .mk _ x :: r, .mk _ y :: s => by simp only [alikeF, eqB, alikeF_eq r s]; rfl
theorem alikeV_eq (a b : Val) : alikeV a b = (decide (a.kind = b.kind) && (decide (a.n = b.n) && (decide (a.s = b.s) && (eqB alikeV a.l b.l && eqB alikeX a.f b.f)))) := by
  cases a; cases b; simp only [alikeV, alikeL_eq, alikeF_eq]; rfl
mutual
theorem alikeV_iff : ∀ (a b : Val), alikeV a b = true ↔ a = b
  | .mk k n s l f, .mk k' n' s' l' f' => by
    simp only [alikeV, Bool.and_eq_true, decide_eq_true_eq, alikeL_iff l l', alikeF_iff f f', Val.mk.injEq]
theorem alikeL_iff : ∀ (a b : List Val), alikeL a b = true ↔ a = b
  | [], [] => by simp [alikeL]
  | [], _ :: _ => by simp [alikeL]
  | _ :: _, [] => by simp [alikeL]
  | x :: r, y :: s => by simp only [alikeL, Bool.and_eq_true, alikeV_iff x y, alikeL_iff r s, List.cons.injEq]
theorem alikeF_iff : ∀ (a b : List Fld), alikeF a b = true ↔ a = b
  | [], [] => by simp [alikeF]
  | [], _ :: _ => by simp [alikeF]
  | .mk _ _ :: _, [] => by simp [alikeF]
  | .mk nm x :: r, .mk nm' y :: s => by simp only [alikeF, Bool.and_eq_true, decide_eq_true_eq, alikeV_iff x y, alikeF_iff r s, List.cons.injEq, Fld.mk.injEq]
end

/-- slices.EqualFunc[[]foliowright/api.Value,[]foliowright/api.Value,foliowright/api.Value,foliowright/api.Value] -/
def L_slices_EqualFunc___foliowright_api_Value___foliowright_api_Value_foliowright_api_Value_foliowright_api_Value_ : LCode :=
  .seq (.reg [⟨some 6, .asg (.k (.d (.bool false))), none⟩]) (.seq (.seq (.reg [⟨some 10, .val (.cp (.t 0)), none⟩, ⟨some 11, .val (.len false (.t 10)), none⟩, ⟨some 12, .val (.cp 
  (.t 1)), none⟩, ⟨some 13, .val (.len false (.t 12)), none⟩, ⟨some 14, .val (.bin .neq (.t 11) (.t 13)), none⟩]) (.cond (.t 14) (.seq (.reg [⟨some 6, .asg (.k (.d (.bool false))), 
  none⟩]) .ret) .skip)) (.seq (.seq (.reg [⟨some 15, .val (.cp (.t 0)), none⟩, ⟨some 16, .val (.len false (.t 15)), none⟩, ⟨some 17, .val (.cp (.k (.d (.int .i64 0)))), none⟩]) 
  (.block 0 (.loop (.seq (.reg [⟨some 18, .val (.bin .lss (.t 17) (.t 16)), none⟩]) (.seq (.cond (.t 18) .skip (.exit 0)) (.seq (.block 1 (.seq (.reg [⟨some 19, .val (.cp (.t 17)), 
  none⟩, ⟨some 20, .val (.ia 5 (.t 15) (.t 17)), none⟩, ⟨some 21, .val (.ld true 5 (.t 20)), none⟩, ⟨some 8, .allo [.int .i64 0, .int .i64 0, .str [], .list [], .list []], none⟩, 
  ⟨some 7, .asg (.t 19), none⟩, ⟨none, .st 5 (.t 8) (.t 21), none⟩]) (.seq (.reg [⟨some 22, .val (.cp (.t 1)), none⟩, ⟨some 23, .val (.cp (.t 7)), none⟩, ⟨some 24, .val (.ia 5 (.t 
  22) (.t 23)), none⟩, ⟨some 25, .val (.ld true 5 (.t 24)), none⟩, ⟨some 9, .allo [.int .i64 0, .int .i64 0, .str [], .list [], .list []], none⟩, ⟨none, .st 5 (.t 9) (.t 25), 
  none⟩]) (.seq (.reg [⟨some 26, .val (.cp (.t 2)), none⟩, ⟨some 27, .val (.ld true 5 (.t 8)), none⟩, ⟨some 28, .val (.ld true 5 (.t 9)), none⟩, ⟨some 29, .prim .call [.t 26, .t 
  27, .t 28] [], none⟩, ⟨some 30, .val (.not (.t 29)), none⟩]) (.cond (.t 30) (.seq (.reg [⟨some 6, .asg (.k (.d (.bool false))), none⟩]) .ret) .skip))))) (.reg [⟨some 31, .val 
  (.bin .add (.t 17) (.k (.d (.int .i64 1)))), none⟩, ⟨some 17, .val (.cp (.t 31)), none⟩]))))))) (.seq (.reg [⟨some 6, .asg (.k (.d (.bool true))), none⟩]) .ret)))
def R_slices_EqualFunc___foliowright_api_Value___foliowright_api_Value_foliowright_api_Value_foliowright_api_Value_ : List LRes := [.tmp 6]
theorem lift_slices_EqualFunc___foliowright_api_Value___foliowright_api_Value_foliowright_api_Value_foliowright_api_Value_ : Lifts Try.prog 48 32 L_slices_EqualFunc___foliowright_api_Value___foliowright_api_Value_foliowright_api_Value_foliowright_api_Value_ R_slices_EqualFunc___foliowright_api_Value___foliowright_api_Value_foliowright_api_Value_foliowright_api_Value_ := ⟨_, _, Try.func48, rfl, by kernel_rfl, by kernel_rfl, rfl⟩

theorem equalFuncV_call (g : Nat) (hg : callOk Try.prog g = true) (a b : List Val) (hl : a.length ≤ 1048576) (p : Val → Val → Bool) (hp : ∀ x ∈ a, ∀ y ∈ b, PCall Try.prog g [x.d, y.d] (fun r => r = .one (.bool (p x y)))) :
    MCallE Try.prog 48 [.d (.list (valsD a)), .d (.list (valsD b)), .fn (.func g) [] []] [] (.d (.bool (eqB p a b))) [] := by
  have hla := valsD_length a
  have hlb := valsD_length b
  have castE : ∀ x y : Nat, ((x : Int) = (y : Int)) = (x = y) := fun x y => by apply propext; omega
  generalize hR : eqB p a b = R
  refine lift_slices_EqualFunc___foliowright_api_Value___foliowright_api_Value_foliowright_api_Value_foliowright_api_Value_.mcall (by kernel_rfl) rfl ?_
  simp (maxSteps := 2000000) only [go_sem, ↓reduceIte, L_slices_EqualFunc___foliowright_api_Value___foliowright_api_Value_foliowright_api_Value_foliowright_api_Value_, R_slices_EqualFunc___foliowright_api_Value___foliowright_api_Value_foliowright_api_Value_foliowright_api_Value_, hla, hlb, castE]
  refine ⟨fun c1 => ?_, fun c1 => ?_⟩
  · rw [eqB_len c1] at hR; subst hR; rfl
  · refine run_loop (fun i : Nat => ⟨[(0, .d (.list (valsD a))), (1, .d (.list (valsD b))), (2, .fn (.func g) [] []), (15, .d (.list (valsD a))), (16, .d (.int .i64 a.length)), (17, .d (.int .i64 i))], [], []⟩)
      (fun i => i ≤ a.length ∧ eqB p (a.drop i) (b.drop i) = R) (fun i => a.length - i) 0 ?_ ?_ ?_
    · refine Weak.mk ?_ ?_ ?_ <;> simp (maxSteps := 2000000) only [go_sem, ↓reduceIte, Sub, Int.natCast_add, Int.natCast_mul]
    · exact ⟨by omega, hR⟩
    · rintro i ⟨hi, hF⟩
      simp (maxSteps := 2000000) only [go_sem, ↓reduceIte, hla]
      refine ⟨fun hlt => ?_, fun hge => ?_⟩
      · obtain ⟨x, hx⟩ := get_some (l := a) (i := i) (by omega)
        obtain ⟨y, hy⟩ := get_some (l := b) (i := i) (by omega)
        rw [drop_at hx, drop_at hy, eqB] at hF
        have hc := (hp x (List.mem_of_getElem? hx) y (List.mem_of_getElem? hy)).mcallE hg
        simp only [List.map_cons, List.map_nil, Res.av] at hc
        rw [Val.d_eq x, Val.d_eq y] at hc
        simp (maxSteps := 2000000) (disch := omega) only [go_sem, ↓reduceIte, getI_nat, valsD_get, hx, hy, Val.d_eq]
        refine PrimG.mcall ([]) ([]) rfl (hc) rfl rfl (by simp only [objsAt, St.obj, aget, AObj.ren, AV.ren, AV.ren1, renL, ren1L, renR, renQ, List.getD_cons_zero, List.getD_cons_succ, and_true, and_self, Nat.reduceEqDiff, ↓reduceIte, reduceCtorEq]) rfl rfl rfl ⟨rfl, rfl⟩ ?_
        simp (maxSteps := 2000000) (disch := omega) only [go_sem, ↓reduceIte]
        refine ⟨fun w1 => ?_, fun w1 => ⟨i + 1, ?_, ⟨by omega, ?_⟩, by omega⟩⟩
        · rw [← hF, w1]; simp
        · refine Weak.mk ?_ ?_ ?_ <;> simp (maxSteps := 2000000) only [go_sem, ↓reduceIte, Sub, Int.natCast_add, Int.natCast_mul]
        · rw [← hF, w1]; rfl
      · rw [eqB_nil (List.drop_eq_nil_of_le (by omega)) (List.drop_eq_nil_of_le (by omega))] at hF
        subst hF
        rfl

/-- slices.EqualFunc[[]foliowright/api.Field,[]foliowright/api.Field,foliowright/api.Field,foliowright/api.Field] -/
def L_slices_EqualFunc___foliowright_api_Field___foliowright_api_Field_foliowright_api_Field_foliowright_api_Field_ : LCode :=
  .seq (.reg [⟨some 6, .asg (.k (.d (.bool false))), none⟩]) (.seq (.seq (.reg [⟨some 10, .val (.cp (.t 0)), none⟩, ⟨some 11, .val (.len false (.t 10)), none⟩, ⟨some 12, .val (.cp 
  (.t 1)), none⟩, ⟨some 13, .val (.len false (.t 12)), none⟩, ⟨some 14, .val (.bin .neq (.t 11) (.t 13)), none⟩]) (.cond (.t 14) (.seq (.reg [⟨some 6, .asg (.k (.d (.bool false))), 
  none⟩]) .ret) .skip)) (.seq (.seq (.reg [⟨some 15, .val (.cp (.t 0)), none⟩, ⟨some 16, .val (.len false (.t 15)), none⟩, ⟨some 17, .val (.cp (.k (.d (.int .i64 0)))), none⟩]) 
  (.block 0 (.loop (.seq (.reg [⟨some 18, .val (.bin .lss (.t 17) (.t 16)), none⟩]) (.seq (.cond (.t 18) .skip (.exit 0)) (.seq (.block 1 (.seq (.reg [⟨some 19, .val (.cp (.t 17)), 
  none⟩, ⟨some 20, .val (.ia 6 (.t 15) (.t 17)), none⟩, ⟨some 21, .val (.ld true 6 (.t 20)), none⟩, ⟨some 8, .allo [.str [], .int .i64 0, .int .i64 0, .str [], .list [], .list []], 
  none⟩, ⟨some 7, .asg (.t 19), none⟩, ⟨none, .st 6 (.t 8) (.t 21), none⟩]) (.seq (.reg [⟨some 22, .val (.cp (.t 1)), none⟩, ⟨some 23, .val (.cp (.t 7)), none⟩, ⟨some 24, .val (.ia 
  6 (.t 22) (.t 23)), none⟩, ⟨some 25, .val (.ld true 6 (.t 24)), none⟩, ⟨some 9, .allo [.str [], .int .i64 0, .int .i64 0, .str [], .list [], .list []], none⟩, ⟨none, .st 6 (.t 9) 
  (.t 25), none⟩]) (.seq (.reg [⟨some 26, .val (.cp (.t 2)), none⟩, ⟨some 27, .val (.ld true 6 (.t 8)), none⟩, ⟨some 28, .val (.ld true 6 (.t 9)), none⟩, ⟨some 29, .prim .call [.t 
  26, .t 27, .t 28] [], none⟩, ⟨some 30, .val (.not (.t 29)), none⟩]) (.cond (.t 30) (.seq (.reg [⟨some 6, .asg (.k (.d (.bool false))), none⟩]) .ret) .skip))))) (.reg [⟨some 31, 
  .val (.bin .add (.t 17) (.k (.d (.int .i64 1)))), none⟩, ⟨some 17, .val (.cp (.t 31)), none⟩]))))))) (.seq (.reg [⟨some 6, .asg (.k (.d (.bool true))), none⟩]) .ret)))
def R_slices_EqualFunc___foliowright_api_Field___foliowright_api_Field_foliowright_api_Field_foliowright_api_Field_ : List LRes := [.tmp 6]
theorem lift_slices_EqualFunc___foliowright_api_Field___foliowright_api_Field_foliowright_api_Field_foliowright_api_Field_ : Lifts Try.prog 49 32 L_slices_EqualFunc___foliowright_api_Field___foliowright_api_Field_foliowright_api_Field_foliowright_api_Field_ R_slices_EqualFunc___foliowright_api_Field___foliowright_api_Field_foliowright_api_Field_foliowright_api_Field_ := ⟨_, _, Try.func49, rfl, by kernel_rfl, by kernel_rfl, rfl⟩

theorem equalFuncX_call (g : Nat) (hg : callOk Try.prog g = true) (a b : List Fld) (hl : a.length ≤ 1048576) (p : Fld → Fld → Bool) (hp : ∀ x ∈ a, ∀ y ∈ b, PCall Try.prog g [x.d, y.d] (fun r => r = .one (.bool (p x y)))) :
    MCallE Try.prog 49 [.d (.list (fldsD a)), .d (.list (fldsD b)), .fn (.func g) [] []] [] (.d (.bool (eqB p a b))) [] := by
  have hla := fldsD_length a
  have hlb := fldsD_length b
  have castE : ∀ x y : Nat, ((x : Int) = (y : Int)) = (x = y) := fun x y => by apply propext; omega
  generalize hR : eqB p a b = R
  refine lift_slices_EqualFunc___foliowright_api_Field___foliowright_api_Field_foliowright_api_Field_foliowright_api_Field_.mcall (by kernel_rfl) rfl ?_
  simp (maxSteps := 2000000) only [go_sem, ↓reduceIte, L_slices_EqualFunc___foliowright_api_Field___foliowright_api_Field_foliowright_api_Field_foliowright_api_Field_, R_slices_EqualFunc___foliowright_api_Field___foliowright_api_Field_foliowright_api_Field_foliowright_api_Field_, hla, hlb, castE]
  refine ⟨fun c1 => ?_, fun c1 => ?_⟩
  · rw [eqB_len c1] at hR; subst hR; rfl
  · refine run_loop (fun i : Nat => ⟨[(0, .d (.list (fldsD a))), (1, .d (.list (fldsD b))), (2, .fn (.func g) [] []), (15, .d (.list (fldsD a))), (16, .d (.int .i64 a.length)), (17, .d (.int .i64 i))], [], []⟩)
      (fun i => i ≤ a.length ∧ eqB p (a.drop i) (b.drop i) = R) (fun i => a.length - i) 0 ?_ ?_ ?_
    · refine Weak.mk ?_ ?_ ?_ <;> simp (maxSteps := 2000000) only [go_sem, ↓reduceIte, Sub, Int.natCast_add, Int.natCast_mul]
    · exact ⟨by omega, hR⟩
    · rintro i ⟨hi, hF⟩
      simp (maxSteps := 2000000) only [go_sem, ↓reduceIte, hla]
      refine ⟨fun hlt => ?_, fun hge => ?_⟩
      · obtain ⟨x, hx⟩ := get_some (l := a) (i := i) (by omega)
        obtain ⟨y, hy⟩ := get_some (l := b) (i := i) (by omega)
        rw [drop_at hx, drop_at hy, eqB] at hF
        have hc := (hp x (List.mem_of_getElem? hx) y (List.mem_of_getElem? hy)).mcallE hg
        simp only [List.map_cons, List.map_nil, Res.av] at hc
        rw [Fld.d_eq x, Fld.d_eq y] at hc
        simp (maxSteps := 2000000) (disch := omega) only [go_sem, ↓reduceIte, getI_nat, fldsD_get, hx, hy, Fld.d_eq]
        refine PrimG.mcall ([]) ([]) rfl (hc) rfl rfl (by simp only [objsAt, St.obj, aget, AObj.ren, AV.ren, AV.ren1, renL, ren1L, renR, renQ, List.getD_cons_zero, List.getD_cons_succ, and_true, and_self, Nat.reduceEqDiff, ↓reduceIte, reduceCtorEq]) rfl rfl rfl ⟨rfl, rfl⟩ ?_
        simp (maxSteps := 2000000) (disch := omega) only [go_sem, ↓reduceIte]
        refine ⟨fun w1 => ?_, fun w1 => ⟨i + 1, ?_, ⟨by omega, ?_⟩, by omega⟩⟩
        · rw [← hF, w1]; simp
        · refine Weak.mk ?_ ?_ ?_ <;> simp (maxSteps := 2000000) only [go_sem, ↓reduceIte, Sub, Int.natCast_add, Int.natCast_mul]
        · rw [← hF, w1]; rfl
      · rw [eqB_nil (List.drop_eq_nil_of_le (by omega)) (List.drop_eq_nil_of_le (by omega))] at hF
        subst hF
        rfl

/-- value.Alike -/
def L_value_Alike : LCode :=
  .seq (.reg [⟨some 2, .box (.t 0), none⟩, ⟨some 3, .box (.t 1), none⟩, ⟨some 4, .asg (.k (.d (.bool false))), none⟩]) (.seq (.reg [⟨some 5, .val (.fa 0 (.t 2)), none⟩, ⟨some 6, .val 
  (.ld false 1 (.t 5)), none⟩, ⟨some 7, .val (.fa 0 (.t 3)), none⟩, ⟨some 8, .val (.ld false 1 (.t 7)), none⟩, ⟨some 9, .val (.bin .eql (.t 6) (.t 8)), none⟩, ⟨some 10, .val (.cp 
  (.t 9)), none⟩, ⟨some 11, .val (.fa 1 (.t 2)), some (10, true)⟩, ⟨some 12, .val (.ld false 1 (.t 11)), some (10, true)⟩, ⟨some 13, .val (.fa 1 (.t 3)), some (10, true)⟩, ⟨some 
  14, .val (.ld false 1 (.t 13)), some (10, true)⟩, ⟨some 15, .val (.bin .eql (.t 12) (.t 14)), some (10, true)⟩, ⟨some 16, .val (.pick (.t 10) (.t 15) (.k (.d (.bool false)))), 
  none⟩, ⟨some 17, .val (.cp (.t 16)), none⟩, ⟨some 18, .val (.fa 2 (.t 2)), some (17, true)⟩, ⟨some 19, .val (.ld false 1 (.t 18)), some (17, true)⟩, ⟨some 20, .val (.fa 2 (.t 
  3)), some (17, true)⟩, ⟨some 21, .val (.ld false 1 (.t 20)), some (17, true)⟩, ⟨some 22, .val (.bin .eql (.t 19) (.t 21)), some (17, true)⟩, ⟨some 23, .val (.pick (.t 17) (.t 22) 
  (.k (.d (.bool false)))), none⟩, ⟨some 24, .val (.cp (.t 23)), none⟩, ⟨some 25, .val (.fa 3 (.t 2)), some (24, true)⟩, ⟨some 26, .val (.ld false 1 (.t 25)), some (24, true)⟩, 
  ⟨some 27, .val (.fa 3 (.t 3)), some (24, true)⟩, ⟨some 28, .val (.ld false 1 (.t 27)), some (24, true)⟩, ⟨some 29, .prim .call [.k (.fn (.func 48) [] []), .t 26, .t 28, .k (.fn 
  (.func 35) [] [])] [], some (24, true)⟩, ⟨some 30, .val (.pick (.t 24) (.t 29) (.k (.d (.bool false)))), none⟩, ⟨some 31, .val (.cp (.t 30)), none⟩, ⟨some 32, .val (.fa 4 (.t 
  2)), some (31, true)⟩, ⟨some 33, .val (.ld false 1 (.t 32)), some (31, true)⟩, ⟨some 34, .val (.fa 4 (.t 3)), some (31, true)⟩, ⟨some 35, .val (.ld false 1 (.t 34)), some (31, 
  true)⟩, ⟨some 36, .prim .call [.k (.fn (.func 49) [] []), .t 33, .t 35, .k (.fn (.func 50) [] [])] [], some (31, true)⟩, ⟨some 37, .val (.pick (.t 31) (.t 36) (.k (.d (.bool 
  false)))), none⟩, ⟨some 4, .asg (.t 37), none⟩]) .ret)
def R_value_Alike : List LRes := [.tmp 4]
theorem lift_value_Alike : Lifts Try.prog 35 38 L_value_Alike R_value_Alike := ⟨_, _, Try.func35, rfl, by kernel_rfl, by kernel_rfl, rfl⟩

/-- value.Alike$1 -/
def L_value_Alike_1 : LCode :=
  .seq (.reg [⟨some 2, .box (.t 0), none⟩, ⟨some 3, .box (.t 1), none⟩, ⟨some 4, .asg (.k (.d (.bool false))), none⟩]) (.seq (.reg [⟨some 5, .val (.fa 0 (.t 2)), none⟩, ⟨some 6, .val 
  (.ld false 1 (.t 5)), none⟩, ⟨some 7, .val (.fa 0 (.t 3)), none⟩, ⟨some 8, .val (.ld false 1 (.t 7)), none⟩, ⟨some 9, .val (.bin .eql (.t 6) (.t 8)), none⟩, ⟨some 10, .val (.cp 
  (.t 9)), none⟩, ⟨some 11, .val (.fa 1 (.t 2)), some (10, true)⟩, ⟨some 12, .val (.ld true 5 (.t 11)), some (10, true)⟩, ⟨some 13, .val (.fa 1 (.t 3)), some (10, true)⟩, ⟨some 14, 
  .val (.ld true 5 (.t 13)), some (10, true)⟩, ⟨some 15, .call 35 [.t 12, .t 14], some (10, true)⟩, ⟨some 16, .val (.pick (.t 10) (.t 15) (.k (.d (.bool false)))), none⟩, ⟨some 4, 
  .asg (.t 16), none⟩]) .ret)
def R_value_Alike_1 : List LRes := [.tmp 4]
theorem lift_value_Alike_1 : Lifts Try.prog 50 17 L_value_Alike_1 R_value_Alike_1 := ⟨_, _, Try.func50, rfl, by kernel_rfl, by kernel_rfl, rfl⟩

theorem alikeP_call : ∀ (m : Nat) (a b : Val), SizeOf.sizeOf a ≤ m → a.sm 1048576 = true → PCall Try.prog 35 [a.d, b.d] (fun r => r = .one (.bool (alikeV a b))) := by
  intro m
  induction m with
  | zero => intro v b h; cases v; simp at h
  | succ m ih =>
    intro a b hv hsm
    obtain ⟨_, hll, hfl, hsl, hsf⟩ := Val.sm_iff.1 hsm
    have hL : ∀ x ∈ a.l, ∀ y ∈ b.l, PCall Try.prog 35 [x.d, y.d] (fun r => r = .one (.bool (alikeV x y))) :=
      fun x hx y _ => ih x y (by have := size_l hx; omega) (hsl x hx)
    have hF : ∀ x ∈ a.f, ∀ y ∈ b.f, PCall Try.prog 50 [x.d, y.d] (fun r => r = .one (.bool (alikeX x y))) := fun x hx y _ => by
      have hc := ih x.v y.v (by have := size_f hx; omega) (Fld.sm_iff.1 (hsf x hx)).2
      rw [Val.d_eq x.v, Val.d_eq y.v] at hc
      rw [Fld.d_eq x, Fld.d_eq y]
      refine lift_value_Alike_1.call rfl ?_
      simp (maxSteps := 2000000) only [go_sem, ↓reduceIte, L_value_Alike_1, R_value_Alike_1]
      refine ⟨fun c1 => ?_, fun c1 => ?_⟩
      · first
        | refine CallD.of hc ?_
        | refine CallG.of hc ?_
        simp (maxSteps := 2000000) only [go_sem, ↓reduceIte]
        simp [alikeX, c1]
      · simp [alikeX, c1]
    generalize hR : alikeV a b = R
    rw [alikeV_eq] at hR
    rw [Val.d_eq a, Val.d_eq b]
    refine lift_value_Alike.call rfl ?_
    simp (maxSteps := 2000000) only [go_sem, ↓reduceIte, L_value_Alike, R_value_Alike]
    refine ⟨fun c1 => ⟨fun c2 => ⟨fun c3 => ?_, fun c3 => ?_⟩, fun c2 => ?_⟩, fun c1 => ?_⟩
    · refine PrimG.mcall ([]) ([]) rfl (equalFuncV_call _ (by kernel_rfl) a.l b.l (by omega) _ hL) rfl rfl (by simp only [objsAt, St.obj, aget, AObj.ren, AV.ren, AV.ren1, renL, ren1L, renR, renQ, List.getD_cons_zero, List.getD_cons_succ, and_true, and_self, Nat.reduceEqDiff, ↓reduceIte, reduceCtorEq]) rfl rfl rfl ⟨rfl, rfl⟩ ?_
      simp only [c1, c2, c3, decide_true, Bool.true_and] at hR
      simp (maxSteps := 2000000) only [go_sem, ↓reduceIte]
      refine ⟨fun c4 => ?_, fun c4 => ?_⟩
      · refine PrimG.mcall ([]) ([]) rfl (equalFuncX_call _ (by kernel_rfl) a.f b.f (by omega) _ hF) rfl rfl (by simp only [objsAt, St.obj, aget, AObj.ren, AV.ren, AV.ren1, renL, ren1L, renR, renQ, List.getD_cons_zero, List.getD_cons_succ, and_true, and_self, Nat.reduceEqDiff, ↓reduceIte, reduceCtorEq]) rfl rfl rfl ⟨rfl, rfl⟩ ?_
        simp (maxSteps := 2000000) only [go_sem, ↓reduceIte]
        rw [← hR, c4]; rfl
      · rw [← hR, c4]; rfl
    · rw [← hR]; simp [c3]
    · rw [← hR]; simp [c2]
    · rw [← hR]; simp [c1]

/-- What a dictionary has by a name. -/
def getV (nm : List UInt8) : List Fld → Option Val
  | [] => none
  | x :: r => if x.name = nm then some x.v else getV nm r
def zeroV : Val := .mk 0 0 [] [] []
def getR (o : Option Val) : Res := .tup [(o.getD zeroV).d, .bool o.isSome]
/-- value.Get -/
def L_value_Get : LCode :=
  .seq (.reg [⟨some 2, .box (.t 0), none⟩, ⟨some 4, .allo [.int .i64 0, .int .i64 0, .str [], .list [], .list []], none⟩, ⟨some 5, .asg (.k (.d (.bool false))), none⟩]) (.seq (.seq 
  (.reg [⟨some 8, .val (.fa 4 (.t 2)), none⟩, ⟨some 9, .val (.ld false 1 (.t 8)), none⟩, ⟨some 10, .val (.len false (.t 9)), none⟩, ⟨some 11, .val (.cp (.k (.d (.int .i64 0)))), 
  none⟩]) (.block 0 (.loop (.seq (.reg [⟨some 12, .val (.bin .lss (.t 11) (.t 10)), none⟩]) (.seq (.cond (.t 12) .skip (.exit 0)) (.seq (.block 1 (.seq (.reg [⟨some 13, .val (.ia 6 
  (.t 9) (.t 11)), none⟩, ⟨some 14, .val (.ld true 6 (.t 13)), none⟩, ⟨some 7, .allo [.str [], .int .i64 0, .int .i64 0, .str [], .list [], .list []], none⟩, ⟨none, .st 6 (.t 7) 
  (.t 14), none⟩]) (.seq (.reg [⟨some 15, .val (.fa 0 (.t 7)), none⟩, ⟨some 16, .val (.ld false 1 (.t 15)), none⟩, ⟨some 17, .val (.cp (.t 1)), none⟩, ⟨some 18, .val (.bin .eql (.t 
  16) (.t 17)), none⟩]) (.cond (.t 18) (.seq (.reg [⟨some 19, .val (.fa 1 (.t 7)), none⟩, ⟨some 20, .val (.ld true 5 (.t 19)), none⟩, ⟨none, .st 5 (.t 4) (.t 20), none⟩, ⟨some 5, 
  .asg (.k (.d (.bool true))), none⟩]) .ret) .skip)))) (.reg [⟨some 21, .val (.bin .add (.t 11) (.k (.d (.int .i64 1)))), none⟩, ⟨some 11, .val (.cp (.t 21)), none⟩]))))))) (.seq 
  (.reg [⟨some 22, .val (.bld [(0, 1), (1, 1), (2, 1), (3, 1), (4, 1)] [.int .i64 0, .int .i64 0, .str [], .list [], .list []] [] []), none⟩, ⟨none, .st 5 (.t 4) (.t 22), none⟩, 
  ⟨some 5, .asg (.k (.d (.bool false))), none⟩]) .ret))
def R_value_Get : List LRes := [.cell 4 true 5, .tmp 5]
theorem lift_value_Get : Lifts Try.prog 84 23 L_value_Get R_value_Get := ⟨_, _, Try.func84, rfl, by kernel_rfl, by kernel_rfl, rfl⟩

theorem getP_call (v : Val) (nm : List UInt8) (hf : v.f.length ≤ 1048576) : PCall Try.prog 84 [v.d, .str nm] (fun r => r = getR (getV nm v.f)) := by
  have hfl' := fldsD_length v.f
  generalize hR : getV nm v.f = R
  rw [Val.d_eq]
  refine lift_value_Get.call rfl ?_
  simp (maxSteps := 2000000) only [go_sem, ↓reduceIte, L_value_Get, R_value_Get]
  refine run_loop (fun i : Nat => ⟨[(1, .d (.str nm)), (2, .ptr (.l 2) 0), (4, .ptr (.l 4) 0), (9, .d (.list (fldsD v.f))), (10, .d (.int .i64 v.f.length)), (11, .d (.int .i64 i))],
      [(2, .cells [.d (.int .i64 v.kind), .d (.int .i64 v.n), .d (.str v.s), .d (.list (valsD v.l)), .d (.list (fldsD v.f))]),
       (4, .cells [.d (.int .i64 0), .d (.int .i64 0), .d (.str []), .ns, .ns])], []⟩)
    (fun i => i ≤ v.f.length ∧ getV nm (v.f.drop i) = R) (fun i => v.f.length - i) 0 ?_ ?_ ?_
  · refine Weak.mk ?_ ?_ ?_ <;> simp (maxSteps := 2000000) only [go_sem, ↓reduceIte, Sub, Int.natCast_add, Int.natCast_mul, hfl']
  · exact ⟨by omega, hR⟩
  · rintro i ⟨hi, hF⟩
    simp (maxSteps := 2000000) only [go_sem, ↓reduceIte, hfl']
    refine ⟨fun hlt => ?_, fun hge => ?_⟩
    · obtain ⟨x, hx⟩ := get_some (l := v.f) (i := i) (by omega)
      rw [drop_at hx, getV] at hF
      simp (maxSteps := 2000000) (disch := omega) only [go_sem, ↓reduceIte, getI_nat, fldsD_get, hx, Fld.d_eq]
      refine ⟨fun n1 => ?_, fun n1 => ⟨i + 1, ?_, ⟨by omega, ?_⟩, by omega⟩⟩
      · rw [if_pos n1] at hF
        subst hF
        simp only [getR, Option.getD_some, Option.isSome_some]
        rw [Val.d_eq x.v]
      · refine Weak.mk ?_ ?_ ?_ <;> simp (maxSteps := 2000000) only [go_sem, ↓reduceIte, Sub, Int.natCast_add, Int.natCast_mul]
      · rw [if_neg n1] at hF; exact hF
    · rw [List.drop_eq_nil_of_le (by omega), getV] at hF
      subst hF
      rfl
end Go.Av.Try
