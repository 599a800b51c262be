import Derived.Test.YtbfljokjkcdbeaaEVal6
/- Values of a file: which are alike. -/
set_option linter.unusedSimpArgs false
namespace Go.Av.Try
open Go.Proofs

/-- Two lists, part by part. -/
def eqB {α : Type} (p : α → α → Bool) : List α → List α → Bool
  | [], [] => true
  | x :: r, y :: s => p x y && eqB p r s
  | _, _ => false
theorem eqB_len {α : Type} {p : α → α → Bool} : ∀ {a b : List α}, ¬ a.length = b.length → eqB p a b = false
  | [], [], h => absurd rfl h
  | [], _ :: _, _ => rfl
  | _ :: _, [], _ => rfl
  | x :: r, y :: s, h => by
    have : eqB p r s = false := eqB_len (by simpa using h)
    simp [eqB, this]
theorem eqB_nil {α : Type} {p : α → α → Bool} {a b : List α} (ha : a = []) (hb : b = []) : eqB p a b = true := by subst ha; subst hb; rfl

mutual
def alikeV : Val → Val → Bool
  | .mk k n s l f, .mk k' n' s' l' f' => decide (k = k') && (decide (n = n') && (decide (s = s') && (alikeL l l' && alikeF f f')))
def alikeL : List Val → List Val → Bool
  | [], [] => true
  | x :: r, y :: s => alikeV x y && alikeL r s
  | _, _ => false
def alikeF : List Fld → List Fld → Bool
  | [], [] => true
  | .mk nm x :: r, .mk nm' y :: s => (decide (nm = nm') && alikeV x y) && alikeF r s
  | _, _ => false
end
def alikeX (x y : Fld) : Bool := decide (x.name = y.name) && alikeV x.v y.v
theorem alikeL_eq : ∀ (a b : List Val), alikeL a b = eqB alikeV a b
  | [], [] => rfl
  | [], _ :: _ => rfl
  | _ :: _, [] => rfl
  | x :: r, y :: s => by simp only [alikeL, eqB, alikeL_eq r s]
theorem alikeF_eq : ∀ (a b : List Fld), alikeF a b = eqB alikeX a b
  | [], [] => rfl
  | [], _ :: _ => rfl
  | .mk _ _ :: _, [] => rfl
  | .mk _ x :: r, .mk _ y :: s => by simp only [alikeF, eqB, alikeF_eq r s]; rfl
theorem alikeV_eq (a b : Val) : alikeV a b = (decide (a.kind = b.kind) && (decide (a.n = b.n) && (decide (a.s = b.s) && (eqB alikeV a.l b.l && eqB alikeX a.f b.f)))) := by
  cases a; cases b; simp only [alikeV, alikeL_eq, alikeF_eq]; rfl
mutual
theorem alikeV_iff : ∀ (a b : Val), alikeV a b = true ↔ a = b
  | .mk k n s l f, .mk k' n' s' l' f' => by
    simp only [alikeV, Bool.and_eq_true, decide_eq_true_eq, alikeL_iff l l', alikeF_iff f f', Val.mk.injEq]
theorem alikeL_iff : ∀ (a b : List Val), alikeL a b = true ↔ a = b
  | [], [] => by simp [alikeL]
  | [], _ :: _ => by simp [alikeL]
  | _ :: _, [] => by simp [alikeL]
  | x :: r, y :: s => by simp only [alikeL, Bool.and_eq_true, alikeV_iff x y, alikeL_iff r s, List.cons.injEq]
theorem alikeF_iff : ∀ (a b : List Fld), alikeF a b = true ↔ a = b
  | [], [] => by simp [alikeF]
  | [], _ :: _ => by simp [alikeF]
  | .mk _ _ :: _, [] => by simp [alikeF]
  | .mk nm x :: r, .mk nm' y :: s => by simp only [alikeF, Bool.and_eq_true, decide_eq_true_eq, alikeV_iff x y, alikeF_iff r s, List.cons.injEq, Fld.mk.injEq]
end

/-- foliowrightref.Alike -/
def L_foliowrightref_Alike : LCode :=
  .seq (.reg [⟨some 2, .box (.t 0), none⟩, ⟨some 3, .box (.t 1), none⟩, ⟨some 4, .asg (.k (.d (.bool false))), none⟩]) (.seq (.seq (.reg [⟨some 9, .val (.fa 0 (.t 2)), none⟩, ⟨some 
  10, .val (.ld false 1 (.t 9)), none⟩, ⟨some 11, .val (.fa 0 (.t 3)), none⟩, ⟨some 12, .val (.ld false 1 (.t 11)), none⟩, ⟨some 13, .val (.bin .neq (.t 10) (.t 12)), none⟩, ⟨some 
  14, .val (.cp (.t 13)), none⟩, ⟨some 15, .val (.fa 1 (.t 2)), some (14, false)⟩, ⟨some 16, .val (.ld false 1 (.t 15)), some (14, false)⟩, ⟨some 17, .val (.fa 1 (.t 3)), some (14, 
  false)⟩, ⟨some 18, .val (.ld false 1 (.t 17)), some (14, false)⟩, ⟨some 19, .val (.bin .neq (.t 16) (.t 18)), some (14, false)⟩, ⟨some 20, .val (.pick (.t 14) (.k (.d (.bool 
  true))) (.t 19)), none⟩, ⟨some 21, .val (.cp (.t 20)), none⟩, ⟨some 22, .val (.fa 2 (.t 2)), some (21, false)⟩, ⟨some 23, .val (.ld false 1 (.t 22)), some (21, false)⟩, ⟨some 24, 
  .val (.fa 2 (.t 3)), some (21, false)⟩, ⟨some 25, .val (.ld false 1 (.t 24)), some (21, false)⟩, ⟨some 26, .val (.bin .neq (.t 23) (.t 25)), some (21, false)⟩, ⟨some 27, .val 
  (.pick (.t 21) (.k (.d (.bool true))) (.t 26)), none⟩, ⟨some 28, .val (.cp (.t 27)), none⟩, ⟨some 29, .val (.fa 3 (.t 2)), some (28, false)⟩, ⟨some 30, .val (.ld false 1 (.t 
  29)), some (28, false)⟩, ⟨some 31, .val (.len false (.t 30)), some (28, false)⟩, ⟨some 32, .val (.fa 3 (.t 3)), some (28, false)⟩, ⟨some 33, .val (.ld false 1 (.t 32)), some (28, 
  false)⟩, ⟨some 34, .val (.len false (.t 33)), some (28, false)⟩, ⟨some 35, .val (.bin .neq (.t 31) (.t 34)), some (28, false)⟩, ⟨some 36, .val (.pick (.t 28) (.k (.d (.bool 
  true))) (.t 35)), none⟩, ⟨some 37, .val (.cp (.t 36)), none⟩, ⟨some 38, .val (.fa 4 (.t 2)), some (37, false)⟩, ⟨some 39, .val (.ld false 1 (.t 38)), some (37, false)⟩, ⟨some 40, 
  .val (.len false (.t 39)), some (37, false)⟩, ⟨some 41, .val (.fa 4 (.t 3)), some (37, false)⟩, ⟨some 42, .val (.ld false 1 (.t 41)), some (37, false)⟩, ⟨some 43, .val (.len 
  false (.t 42)), some (37, false)⟩, ⟨some 44, .val (.bin .neq (.t 40) (.t 43)), some (37, false)⟩, ⟨some 45, .val (.pick (.t 37) (.k (.d (.bool true))) (.t 44)), none⟩]) (.cond 
  (.t 45) (.seq (.reg [⟨some 4, .asg (.k (.d (.bool false))), none⟩]) .ret) .skip)) (.seq (.seq (.reg [⟨some 5, .asg (.k (.d (.int .i64 0))), none⟩]) (.block 0 (.loop (.seq (.seq 
  (.reg [⟨some 46, .val (.cp (.t 5)), none⟩, ⟨some 47, .val (.fa 3 (.t 2)), none⟩, ⟨some 48, .val (.ld false 1 (.t 47)), none⟩, ⟨some 49, .val (.len false (.t 48)), none⟩, ⟨some 
  50, .val (.bin .lss (.t 46) (.t 49)), none⟩]) (.cond (.t 50) .skip (.exit 0))) (.seq (.block 1 (.seq (.dreg [⟨some 53, .val (.fa 3 (.t 2)), none⟩, ⟨some 54, .val (.ld false 1 (.t 
  53)), none⟩, ⟨some 55, .val (.cp (.t 5)), none⟩, ⟨some 56, .val (.ia 5 (.t 54) (.t 55)), none⟩, ⟨some 57, .val (.ld true 5 (.t 56)), none⟩, ⟨some 58, .val (.fa 3 (.t 3)), none⟩, 
  ⟨some 59, .val (.ld false 1 (.t 58)), none⟩, ⟨some 60, .val (.cp (.t 5)), none⟩, ⟨some 61, .val (.ia 5 (.t 59) (.t 60)), none⟩, ⟨some 62, .val (.ld true 5 (.t 61)), none⟩, ⟨some 
  63, .call 22 [.t 57, .t 62], none⟩, ⟨some 6, .asg (.t 63), none⟩]) (.seq (.reg [⟨some 64, .val (.cp (.t 6)), none⟩, ⟨some 65, .val (.not (.t 64)), none⟩]) (.cond (.t 65) (.seq 
  (.reg [⟨some 4, .asg (.k (.d (.bool false))), none⟩]) .ret) .skip)))) (.reg [⟨some 51, .val (.cp (.t 5)), none⟩, ⟨some 52, .val (.bin .add (.t 51) (.k (.d (.int .i64 1)))), 
  none⟩, ⟨some 5, .asg (.t 52), none⟩])))))) (.seq (.seq (.reg [⟨some 7, .asg (.k (.d (.int .i64 0))), none⟩]) (.block 2 (.loop (.seq (.seq (.reg [⟨some 66, .val (.cp (.t 7)), 
  none⟩, ⟨some 67, .val (.fa 4 (.t 2)), none⟩, ⟨some 68, .val (.ld false 1 (.t 67)), none⟩, ⟨some 69, .val (.len false (.t 68)), none⟩, ⟨some 70, .val (.bin .lss (.t 66) (.t 69)), 
  none⟩]) (.cond (.t 70) .skip (.exit 2))) (.seq (.block 3 (.seq (.dreg [⟨some 73, .val (.fa 4 (.t 2)), none⟩, ⟨some 74, .val (.ld false 1 (.t 73)), none⟩, ⟨some 75, .val (.cp (.t 
  7)), none⟩, ⟨some 76, .val (.ia 6 (.t 74) (.t 75)), none⟩, ⟨some 77, .val (.fa 1 (.t 76)), none⟩, ⟨some 78, .val (.ld true 5 (.t 77)), none⟩, ⟨some 79, .val (.fa 4 (.t 3)), 
  none⟩, ⟨some 80, .val (.ld false 1 (.t 79)), none⟩, ⟨some 81, .val (.cp (.t 7)), none⟩, ⟨some 82, .val (.ia 6 (.t 80) (.t 81)), none⟩, ⟨some 83, .val (.fa 1 (.t 82)), none⟩, 
  ⟨some 84, .val (.ld true 5 (.t 83)), none⟩, ⟨some 85, .call 22 [.t 78, .t 84], none⟩, ⟨some 8, .asg (.t 85), none⟩]) (.seq (.dreg [⟨some 86, .val (.cp (.t 8)), none⟩, ⟨some 87, 
  .val (.not (.t 86)), none⟩, ⟨some 88, .val (.cp (.t 87)), none⟩, ⟨some 89, .val (.fa 4 (.t 2)), some (88, false)⟩, ⟨some 90, .val (.ld false 1 (.t 89)), some (88, false)⟩, ⟨some 
  91, .val (.cp (.t 7)), some (88, false)⟩, ⟨some 92, .val (.ia 6 (.t 90) (.t 91)), some (88, false)⟩, ⟨some 93, .val (.fa 0 (.t 92)), some (88, false)⟩, ⟨some 94, .val (.ld false 
  1 (.t 93)), some (88, false)⟩, ⟨some 95, .val (.fa 4 (.t 3)), some (88, false)⟩, ⟨some 96, .val (.ld false 1 (.t 95)), some (88, false)⟩, ⟨some 97, .val (.cp (.t 7)), some (88, 
  false)⟩, ⟨some 98, .val (.ia 6 (.t 96) (.t 97)), some (88, false)⟩, ⟨some 99, .val (.fa 0 (.t 98)), some (88, false)⟩, ⟨some 100, .val (.ld false 1 (.t 99)), some (88, false)⟩, 
  ⟨some 101, .val (.bin .neq (.t 94) (.t 100)), some (88, false)⟩, ⟨some 102, .val (.pick (.t 88) (.k (.d (.bool true))) (.t 101)), none⟩]) (.cond (.t 102) (.seq (.reg [⟨some 4, 
  .asg (.k (.d (.bool false))), none⟩]) .ret) .skip)))) (.reg [⟨some 71, .val (.cp (.t 7)), none⟩, ⟨some 72, .val (.bin .add (.t 71) (.k (.d (.int .i64 1)))), none⟩, ⟨some 7, .asg 
  (.t 72), none⟩])))))) (.seq (.reg [⟨some 4, .asg (.k (.d (.bool true))), none⟩]) .ret))))
def R_foliowrightref_Alike : List LRes := [.tmp 4]
theorem lift_foliowrightref_Alike : Lifts Try.prog 22 103 L_foliowrightref_Alike R_foliowrightref_Alike := ⟨_, _, Try.func22, rfl, by kernel_rfl, by kernel_rfl, rfl⟩

theorem alikeR_call : ∀ (m : Nat) (a b : Val), SizeOf.sizeOf a ≤ m → a.sm 1048576 = true → PCall Try.prog 22 [a.d, b.d] (fun r => r = .one (.bool (alikeV a b))) := by
  intro m
  induction m with
  | zero => intro v b h; cases v; simp at h
  | succ m ih =>
    intro a b hv hsm
    obtain ⟨_, hll, hfl, hsl, hsf⟩ := Val.sm_iff.1 hsm
    have hvl := valsD_length a.l
    have hfl' := fldsD_length a.f
    have hvl2 := valsD_length b.l
    have hfl2 := fldsD_length b.f
    generalize hR : alikeV a b = R
    rw [alikeV_eq] at hR
    rw [Val.d_eq a, Val.d_eq b]
    have castE : ∀ x y : Nat, ((x : Int) = (y : Int)) = (x = y) := fun x y => by apply propext; omega
    refine lift_foliowrightref_Alike.call rfl ?_
    simp (maxSteps := 2000000) only [go_sem, ↓reduceIte, L_foliowrightref_Alike, R_foliowrightref_Alike, hvl, hfl', hvl2, hfl2, castE]
    refine ⟨fun c1 => ⟨fun c2 => ⟨fun c3 => ⟨fun c4 => ⟨fun c5 => ?_, fun c5 => ?_⟩, fun c4 => ?_⟩, fun c3 => ?_⟩, fun c2 => ?_⟩, fun c1 => ?_⟩
    · rw [eqB_len c5] at hR; subst hR; simp
    · simp only [c1, c2, c3, decide_true, Bool.true_and] at hR
      refine run_loop (fun i : Nat => ⟨[(2, .ptr (.l 2) 0), (3, .ptr (.l 3) 0), (5, .d (.int .i64 i))],
          [(2, .cells [.d (.int .i64 a.kind), .d (.int .i64 a.n), .d (.str a.s), .d (.list (valsD a.l)), .d (.list (fldsD a.f))]),
           (3, .cells [.d (.int .i64 b.kind), .d (.int .i64 b.n), .d (.str b.s), .d (.list (valsD b.l)), .d (.list (fldsD b.f))])], []⟩)
        (fun i => i ≤ a.l.length ∧ (eqB alikeV (a.l.drop i) (b.l.drop i) && eqB alikeX a.f b.f) = R) (fun i => a.l.length - i) 0 ?_ ?_ ?_
      · refine Weak.mk ?_ ?_ ?_ <;> simp (maxSteps := 2000000) only [go_sem, ↓reduceIte, Sub, Int.natCast_add, Int.natCast_mul]
      · exact ⟨by omega, hR⟩
      · rintro i ⟨hi, hF⟩
        simp (maxSteps := 2000000) only [go_sem, ↓reduceIte, hvl]
        refine ⟨fun hlt => ?_, fun hge => ?_⟩
        · obtain ⟨x, hx⟩ := get_some (l := a.l) (i := i) (by omega)
          obtain ⟨y, hy⟩ := get_some (l := b.l) (i := i) (by omega)
          rw [drop_at hx, drop_at hy, eqB] at hF
          have hm := List.mem_of_getElem? hx
          have hc := ih x y (by have := size_l hm; omega) (hsl x hm)
          rw [Val.d_eq x, Val.d_eq y] at hc
          simp (maxSteps := 2000000) (disch := omega) only [go_sem, ↓reduceIte, getI_nat, valsD_get, hx, hy, Val.d_eq]
          refine CallD.of hc ?_
          simp (maxSteps := 2000000) (disch := omega) only [go_sem, ↓reduceIte]
          refine ⟨fun w1 => ?_, fun w1 => ⟨i + 1, ?_, ⟨by omega, ?_⟩, by omega⟩⟩
          · rw [← hF, w1]; rfl
          · refine Weak.mk ?_ ?_ ?_ <;> simp (maxSteps := 2000000) only [go_sem, ↓reduceIte, Sub, Int.natCast_add, Int.natCast_mul]
          · rw [← hF, w1]; rfl
        · rw [eqB_nil (List.drop_eq_nil_of_le (by omega)) (List.drop_eq_nil_of_le (by omega)), Bool.true_and] at hF
          refine run_loop (fun i : Nat => ⟨[(2, .ptr (.l 2) 0), (3, .ptr (.l 3) 0), (7, .d (.int .i64 i))],
              [(2, .cells [.d (.int .i64 a.kind), .d (.int .i64 a.n), .d (.str a.s), .d (.list (valsD a.l)), .d (.list (fldsD a.f))]),
               (3, .cells [.d (.int .i64 b.kind), .d (.int .i64 b.n), .d (.str b.s), .d (.list (valsD b.l)), .d (.list (fldsD b.f))])], []⟩)
            (fun i => i ≤ a.f.length ∧ eqB alikeX (a.f.drop i) (b.f.drop i) = R) (fun i => a.f.length - i) 0 ?_ ?_ ?_
          · refine Weak.mk ?_ ?_ ?_ <;> simp (maxSteps := 2000000) only [go_sem, ↓reduceIte, Sub, Int.natCast_add, Int.natCast_mul]
          · exact ⟨by omega, hF⟩
          · rintro i ⟨hi, hF⟩
            simp (maxSteps := 2000000) only [go_sem, ↓reduceIte, hfl']
            refine ⟨fun hlt => ?_, fun hge => ?_⟩
            · obtain ⟨x, hx⟩ := get_some (l := a.f) (i := i) (by omega)
              obtain ⟨y, hy⟩ := get_some (l := b.f) (i := i) (by omega)
              rw [drop_at hx, drop_at hy, eqB, alikeX] at hF
              have hm := List.mem_of_getElem? hx
              have hc := ih x.v y.v (by have := size_f hm; omega) (Fld.sm_iff.1 (hsf x hm)).2
              rw [Val.d_eq x.v, Val.d_eq y.v] at hc
              simp (maxSteps := 2000000) (disch := omega) only [go_sem, ↓reduceIte, getI_nat, fldsD_get, hx, hy, Fld.d_eq]
              refine CallD.of hc ?_
              simp (maxSteps := 2000000) (disch := omega) only [go_sem, ↓reduceIte, getI_nat, fldsD_get, hx, hy, Fld.d_eq]
              refine ⟨fun w1 => ⟨fun n1 => ?_, fun n1 => ⟨i + 1, ?_, ⟨by omega, ?_⟩, by omega⟩⟩, fun w1 => ?_⟩
              · rw [← hF]; simp [n1]
              · refine Weak.mk ?_ ?_ ?_ <;> simp (maxSteps := 2000000) only [go_sem, ↓reduceIte, Sub, Int.natCast_add, Int.natCast_mul]
              · rw [← hF, w1]; simp [n1]
              · rw [← hF, w1]; simp
            · rw [eqB_nil (List.drop_eq_nil_of_le (by omega)) (List.drop_eq_nil_of_le (by omega))] at hF
              subst hF
              rfl
    · rw [eqB_len c4] at hR; subst hR; simp
    · simp only [c3, decide_false, Bool.false_and, Bool.and_false] at hR; subst hR; rfl
    · simp only [c2, decide_false, Bool.false_and, Bool.and_false] at hR; subst hR; rfl
    · simp only [c1, decide_false, Bool.false_and, Bool.and_false] at hR; subst hR; rfl

/-- foliowrightref.Get -/
def L_foliowrightref_Get : LCode :=
  .seq (.reg [⟨some 2, .box (.t 0), none⟩, ⟨some 4, .allo [.int .i64 0, .int .i64 0, .str [], .list [], .list []], none⟩, ⟨some 5, .asg (.k (.d (.bool false))), none⟩]) (.seq (.seq 
  (.reg [⟨some 6, .asg (.k (.d (.int .i64 0))), none⟩]) (.block 0 (.loop (.seq (.seq (.reg [⟨some 7, .val (.cp (.t 6)), none⟩, ⟨some 8, .val (.fa 4 (.t 2)), none⟩, ⟨some 9, .val 
  (.ld false 1 (.t 8)), none⟩, ⟨some 10, .val (.len false (.t 9)), none⟩, ⟨some 11, .val (.bin .lss (.t 7) (.t 10)), none⟩]) (.cond (.t 11) .skip (.exit 0))) (.seq (.block 1 (.seq 
  (.reg [⟨some 14, .val (.fa 4 (.t 2)), none⟩, ⟨some 15, .val (.ld false 1 (.t 14)), none⟩, ⟨some 16, .val (.cp (.t 6)), none⟩, ⟨some 17, .val (.ia 6 (.t 15) (.t 16)), none⟩, ⟨some 
  18, .val (.fa 0 (.t 17)), none⟩, ⟨some 19, .val (.ld false 1 (.t 18)), none⟩, ⟨some 20, .val (.cp (.t 1)), none⟩, ⟨some 21, .val (.bin .eql (.t 19) (.t 20)), none⟩]) (.cond (.t 
  21) (.seq (.reg [⟨some 22, .val (.fa 4 (.t 2)), none⟩, ⟨some 23, .val (.ld false 1 (.t 22)), none⟩, ⟨some 24, .val (.cp (.t 6)), none⟩, ⟨some 25, .val (.ia 6 (.t 23) (.t 24)), 
  none⟩, ⟨some 26, .val (.fa 1 (.t 25)), none⟩, ⟨some 27, .val (.ld true 5 (.t 26)), none⟩, ⟨none, .st 5 (.t 4) (.t 27), none⟩, ⟨some 5, .asg (.k (.d (.bool true))), none⟩]) .ret) 
  .skip))) (.reg [⟨some 12, .val (.cp (.t 6)), none⟩, ⟨some 13, .val (.bin .add (.t 12) (.k (.d (.int .i64 1)))), none⟩, ⟨some 6, .asg (.t 13), none⟩])))))) (.seq (.reg [⟨some 28, 
  .val (.bld [(0, 1), (1, 1), (2, 1), (3, 1), (4, 1)] [.int .i64 0, .int .i64 0, .str [], .list [], .list []] [] []), none⟩, ⟨none, .st 5 (.t 4) (.t 28), none⟩, ⟨some 5, .asg (.k 
  (.d (.bool false))), none⟩]) .ret))
def R_foliowrightref_Get : List LRes := [.cell 4 true 5, .tmp 5]
theorem lift_foliowrightref_Get : Lifts Try.prog 92 29 L_foliowrightref_Get R_foliowrightref_Get := ⟨_, _, Try.func92, rfl, by kernel_rfl, by kernel_rfl, rfl⟩

/-- What a dictionary has by a name. -/
def getV (nm : List UInt8) : List Fld → Option Val
  | [] => none
  | x :: r => if x.name = nm then some x.v else getV nm r
def zeroV : Val := .mk 0 0 [] [] []
def getR (o : Option Val) : Res := .tup [(o.getD zeroV).d, .bool o.isSome]
theorem getR_call (v : Val) (nm : List UInt8) (hf : v.f.length ≤ 1048576) : PCall Try.prog 92 [v.d, .str nm] (fun r => r = getR (getV nm v.f)) := by
  have hfl' := fldsD_length v.f
  generalize hR : getV nm v.f = R
  rw [Val.d_eq]
  refine lift_foliowrightref_Get.call rfl ?_
  simp (maxSteps := 2000000) only [go_sem, ↓reduceIte, L_foliowrightref_Get, R_foliowrightref_Get]
  refine run_loop (fun i : Nat => ⟨[(1, .d (.str nm)), (2, .ptr (.l 2) 0), (4, .ptr (.l 4) 0), (6, .d (.int .i64 i))],
      [(2, .cells [.d (.int .i64 v.kind), .d (.int .i64 v.n), .d (.str v.s), .d (.list (valsD v.l)), .d (.list (fldsD v.f))]),
       (4, .cells [.d (.int .i64 0), .d (.int .i64 0), .d (.str []), .ns, .ns])], []⟩)
    (fun i => i ≤ v.f.length ∧ getV nm (v.f.drop i) = R) (fun i => v.f.length - i) 0 ?_ ?_ ?_
  · refine Weak.mk ?_ ?_ ?_ <;> simp (maxSteps := 2000000) only [go_sem, ↓reduceIte, Sub, Int.natCast_add, Int.natCast_mul]
  · exact ⟨by omega, hR⟩
  · rintro i ⟨hi, hF⟩
    simp (maxSteps := 2000000) only [go_sem, ↓reduceIte, hfl']
    refine ⟨fun hlt => ?_, fun hge => ?_⟩
    · obtain ⟨x, hx⟩ := get_some (l := v.f) (i := i) (by omega)
      rw [drop_at hx, getV] at hF
      simp (maxSteps := 2000000) (disch := omega) only [go_sem, ↓reduceIte, getI_nat, fldsD_get, hx, Fld.d_eq]
      refine ⟨fun n1 => ?_, fun n1 => ⟨i + 1, ?_, ⟨by omega, ?_⟩, by omega⟩⟩
      · rw [if_pos n1] at hF
        subst hF
        simp only [getR, Option.getD_some, Option.isSome_some]
        rw [Val.d_eq x.v]
      · refine Weak.mk ?_ ?_ ?_ <;> simp (maxSteps := 2000000) only [go_sem, ↓reduceIte, Sub, Int.natCast_add, Int.natCast_mul]
      · rw [if_neg n1] at hF; exact hF
    · rw [List.drop_eq_nil_of_le (by omega), getV] at hF
      subst hF
      rfl

/-- value.Get -/
def L_value_Get : LCode :=
  .seq (.reg [⟨some 2, .box (.t 0), none⟩, ⟨some 4, .allo [.int .i64 0, .int .i64 0, .str [], .list [], .list []], none⟩, ⟨some 5, .asg (.k (.d (.bool false))), none⟩]) (.seq (.seq 
  (.reg [⟨some 8, .val (.fa 4 (.t 2)), none⟩, ⟨some 9, .val (.ld false 1 (.t 8)), none⟩, ⟨some 10, .val (.len false (.t 9)), none⟩, ⟨some 11, .val (.cp (.k (.d (.int .i64 0)))), 
  none⟩]) (.block 0 (.loop (.seq (.reg [⟨some 12, .val (.bin .lss (.t 11) (.t 10)), none⟩]) (.seq (.cond (.t 12) .skip (.exit 0)) (.seq (.block 1 (.seq (.reg [⟨some 13, .val (.ia 6 
  (.t 9) (.t 11)), none⟩, ⟨some 14, .val (.ld true 6 (.t 13)), none⟩, ⟨some 7, .allo [.str [], .int .i64 0, .int .i64 0, .str [], .list [], .list []], none⟩, ⟨none, .st 6 (.t 7) 
  (.t 14), none⟩]) (.seq (.reg [⟨some 15, .val (.fa 0 (.t 7)), none⟩, ⟨some 16, .val (.ld false 1 (.t 15)), none⟩, ⟨some 17, .val (.cp (.t 1)), none⟩, ⟨some 18, .val (.bin .eql (.t 
  16) (.t 17)), none⟩]) (.cond (.t 18) (.seq (.reg [⟨some 19, .val (.fa 1 (.t 7)), none⟩, ⟨some 20, .val (.ld true 5 (.t 19)), none⟩, ⟨none, .st 5 (.t 4) (.t 20), none⟩, ⟨some 5, 
  .asg (.k (.d (.bool true))), none⟩]) .ret) .skip)))) (.reg [⟨some 21, .val (.bin .add (.t 11) (.k (.d (.int .i64 1)))), none⟩, ⟨some 11, .val (.cp (.t 21)), none⟩]))))))) (.seq 
  (.reg [⟨some 22, .val (.bld [(0, 1), (1, 1), (2, 1), (3, 1), (4, 1)] [.int .i64 0, .int .i64 0, .str [], .list [], .list []] [] []), none⟩, ⟨none, .st 5 (.t 4) (.t 22), none⟩, 
  ⟨some 5, .asg (.k (.d (.bool false))), none⟩]) .ret))
def R_value_Get : List LRes := [.cell 4 true 5, .tmp 5]
theorem lift_value_Get : Lifts Try.prog 84 23 L_value_Get R_value_Get := ⟨_, _, Try.func84, rfl, by kernel_rfl, by kernel_rfl, rfl⟩

theorem getP_call (v : Val) (nm : List UInt8) (hf : v.f.length ≤ 1048576) : PCall Try.prog 84 [v.d, .str nm] (fun r => r = getR (getV nm v.f)) := by
  have hfl' := fldsD_length v.f
  generalize hR : getV nm v.f = R
  rw [Val.d_eq]
  refine lift_value_Get.call rfl ?_
  simp (maxSteps := 2000000) only [go_sem, ↓reduceIte, L_value_Get, R_value_Get]
  refine run_loop (fun i : Nat => ⟨[(1, .d (.str nm)), (2, .ptr (.l 2) 0), (4, .ptr (.l 4) 0), (9, .d (.list (fldsD v.f))), (10, .d (.int .i64 v.f.length)), (11, .d (.int .i64 i))],
      [(2, .cells [.d (.int .i64 v.kind), .d (.int .i64 v.n), .d (.str v.s), .d (.list (valsD v.l)), .d (.list (fldsD v.f))]),
       (4, .cells [.d (.int .i64 0), .d (.int .i64 0), .d (.str []), .ns, .ns])], []⟩)
    (fun i => i ≤ v.f.length ∧ getV nm (v.f.drop i) = R) (fun i => v.f.length - i) 0 ?_ ?_ ?_
  · refine Weak.mk ?_ ?_ ?_ <;> simp (maxSteps := 2000000) only [go_sem, ↓reduceIte, Sub, Int.natCast_add, Int.natCast_mul, hfl']
  · exact ⟨by omega, hR⟩
  · rintro i ⟨hi, hF⟩
    simp (maxSteps := 2000000) only [go_sem, ↓reduceIte, hfl']
    refine ⟨fun hlt => ?_, fun hge => ?_⟩
    · obtain ⟨x, hx⟩ := get_some (l := v.f) (i := i) (by omega)
      rw [drop_at hx, getV] at hF
      simp (maxSteps := 2000000) (disch := omega) only [go_sem, ↓reduceIte, getI_nat, fldsD_get, hx, Fld.d_eq]
      refine ⟨fun n1 => ?_, fun n1 => ⟨i + 1, ?_, ⟨by omega, ?_⟩, by omega⟩⟩
      · rw [if_pos n1] at hF
        subst hF
        simp only [getR, Option.getD_some, Option.isSome_some]
        rw [Val.d_eq x.v]
      · refine Weak.mk ?_ ?_ ?_ <;> simp (maxSteps := 2000000) only [go_sem, ↓reduceIte, Sub, Int.natCast_add, Int.natCast_mul]
      · rw [if_neg n1] at hF; exact hF
    · rw [List.drop_eq_nil_of_le (by omega), getV] at hF
      subst hF
      rfl
end Go.Av.Try
