import Derived.Test.YtkkdhgibaimboaaDoorEVal15
/- The law of values: what is light, a closed fact. -/
set_option linter.unusedSimpArgs false
namespace Go.Av.Tryd
open Go.Proofs

mutual
/-- The weight, as it is reckoned. -/
def wtV (most : Int) : Val → Int
  | .mk _ _ s l f => wtF most f (wtL most l (IntKind.i64.wrap (1 + (s.length : Int))))
def wtL (most : Int) : List Val → Int → Int
  | [], n => n
  | v :: r, n => if n ≤ most then wtL most r (IntKind.i64.wrap (n + wtV most v)) else n
def wtF (most : Int) : List Fld → Int → Int
  | [], n => n
  | .mk nm v :: r, n => if n ≤ most then wtF most r (IntKind.i64.wrap (IntKind.i64.wrap (n + (nm.length : Int)) + wtV most v)) else n
end
theorem wtV_eq (most : Int) (v : Val) : wtV most v = wtF most v.f (wtL most v.l (IntKind.i64.wrap (1 + (v.s.length : Int)))) := by cases v; simp only [wtV, Val.s, Val.l, Val.f]
theorem wtF_cons (most : Int) (y : Fld) (r : List Fld) (n : Int) : wtF most (y :: r) n = if n ≤ most then wtF most r (IntKind.i64.wrap (IntKind.i64.wrap (n + (y.name.length : Int)) + wtV most y.v)) else n := by cases y; simp only [wtF, Fld.name, Fld.v]
theorem wtL_stop {most n : Int} (h : ¬ n ≤ most) : ∀ l, wtL most l n = n
  | [] => by simp only [wtL]
  | v :: r => by simp only [wtL, if_neg h]
theorem wtF_stop {most n : Int} (h : ¬ n ≤ most) (l : List Fld) : wtF most l n = n := by
  cases l with
  | nil => simp only [wtF]
  | cons y r => rw [wtF_cons, if_neg h]

/-- foliowrightlaw.weight -/
def L_foliowrightlaw_weight : LCode :=
  .seq (.reg [⟨some 2, .box (.t 0), none⟩, ⟨some 4, .asg (.k (.d (.int .i64 0))), none⟩]) (.seq (.reg [⟨some 8, .val (.fa 2 (.t 2)), none⟩, ⟨some 9, .val (.ld false 1 (.t 8)), none⟩, 
  ⟨some 10, .val (.len true (.t 9)), none⟩, ⟨some 11, .val (.bin .add (.k (.d (.int .i64 1))) (.t 10)), none⟩, ⟨some 5, .asg (.t 11), none⟩]) (.seq (.seq (.reg [⟨some 6, .asg (.k 
  (.d (.int .i64 0))), none⟩]) (.block 0 (.loop (.seq (.seq (.reg [⟨some 12, .val (.cp (.t 6)), none⟩, ⟨some 13, .val (.fa 3 (.t 2)), none⟩, ⟨some 14, .val (.ld false 1 (.t 13)), 
  none⟩, ⟨some 15, .val (.len false (.t 14)), none⟩, ⟨some 16, .val (.bin .lss (.t 12) (.t 15)), none⟩, ⟨some 17, .val (.cp (.t 16)), none⟩, ⟨some 18, .val (.cp (.t 5)), some (17, 
  true)⟩, ⟨some 19, .val (.cp (.t 1)), some (17, true)⟩, ⟨some 20, .val (.bin .leq (.t 18) (.t 19)), some (17, true)⟩, ⟨some 21, .val (.pick (.t 17) (.t 20) (.k (.d (.bool 
  false)))), none⟩]) (.cond (.t 21) .skip (.exit 0))) (.seq (.block 1 (.reg [⟨some 24, .val (.cp (.t 5)), none⟩, ⟨some 25, .val (.fa 3 (.t 2)), none⟩, ⟨some 26, .val (.ld false 1 
  (.t 25)), none⟩, ⟨some 27, .val (.cp (.t 6)), none⟩, ⟨some 28, .val (.ia 5 (.t 26) (.t 27)), none⟩, ⟨some 29, .val (.ld true 5 (.t 28)), none⟩, ⟨some 30, .val (.cp (.t 1)), 
  none⟩, ⟨some 31, .call 104 [.t 29, .t 30], none⟩, ⟨some 32, .val (.bin .add (.t 24) (.t 31)), none⟩, ⟨some 5, .asg (.t 32), none⟩])) (.reg [⟨some 22, .val (.cp (.t 6)), none⟩, 
  ⟨some 23, .val (.bin .add (.t 22) (.k (.d (.int .i64 1)))), none⟩, ⟨some 6, .asg (.t 23), none⟩])))))) (.seq (.seq (.reg [⟨some 7, .asg (.k (.d (.int .i64 0))), none⟩]) (.block 2 
  (.loop (.seq (.seq (.reg [⟨some 33, .val (.cp (.t 7)), none⟩, ⟨some 34, .val (.fa 4 (.t 2)), none⟩, ⟨some 35, .val (.ld false 1 (.t 34)), none⟩, ⟨some 36, .val (.len false (.t 
  35)), none⟩, ⟨some 37, .val (.bin .lss (.t 33) (.t 36)), none⟩, ⟨some 38, .val (.cp (.t 37)), none⟩, ⟨some 39, .val (.cp (.t 5)), some (38, true)⟩, ⟨some 40, .val (.cp (.t 1)), 
  some (38, true)⟩, ⟨some 41, .val (.bin .leq (.t 39) (.t 40)), some (38, true)⟩, ⟨some 42, .val (.pick (.t 38) (.t 41) (.k (.d (.bool false)))), none⟩]) (.cond (.t 42) .skip 
  (.exit 2))) (.seq (.block 3 (.dreg [⟨some 45, .val (.cp (.t 5)), none⟩, ⟨some 46, .val (.fa 4 (.t 2)), none⟩, ⟨some 47, .val (.ld false 1 (.t 46)), none⟩, ⟨some 48, .val (.cp (.t 
  7)), none⟩, ⟨some 49, .val (.ia 6 (.t 47) (.t 48)), none⟩, ⟨some 50, .val (.fa 0 (.t 49)), none⟩, ⟨some 51, .val (.ld false 1 (.t 50)), none⟩, ⟨some 52, .val (.len true (.t 51)), 
  none⟩, ⟨some 53, .val (.bin .add (.t 45) (.t 52)), none⟩, ⟨some 54, .val (.fa 4 (.t 2)), none⟩, ⟨some 55, .val (.ld false 1 (.t 54)), none⟩, ⟨some 56, .val (.cp (.t 7)), none⟩, 
  ⟨some 57, .val (.ia 6 (.t 55) (.t 56)), none⟩, ⟨some 58, .val (.fa 1 (.t 57)), none⟩, ⟨some 59, .val (.ld true 5 (.t 58)), none⟩, ⟨some 60, .val (.cp (.t 1)), none⟩, ⟨some 61, 
  .call 104 [.t 59, .t 60], none⟩, ⟨some 62, .val (.bin .add (.t 53) (.t 61)), none⟩, ⟨some 5, .asg (.t 62), none⟩])) (.reg [⟨some 43, .val (.cp (.t 7)), none⟩, ⟨some 44, .val 
  (.bin .add (.t 43) (.k (.d (.int .i64 1)))), none⟩, ⟨some 7, .asg (.t 44), none⟩])))))) (.seq (.reg [⟨some 63, .val (.cp (.t 5)), none⟩, ⟨some 4, .asg (.t 63), none⟩]) .ret))))
def R_foliowrightlaw_weight : List LRes := [.tmp 4]
theorem lift_foliowrightlaw_weight : Lifts Tryd.prog 104 64 L_foliowrightlaw_weight R_foliowrightlaw_weight := ⟨_, _, Tryd.func104, rfl, by kernel_rfl, by kernel_rfl, rfl⟩

theorem weight_call : ∀ (m : Nat) (v : Val) (most : Int), SizeOf.sizeOf v ≤ m → v.sm 1048576 = true → PCall Tryd.prog 104 [v.d, .int .i64 most] (fun r => r = .one (.int .i64 (wtV most v))) := by
  intro m
  induction m with
  | zero => intro v most h; cases v; simp at h
  | succ m ih =>
    intro v most hv hsm
    obtain ⟨_, hll, hfl, hsl, hsf⟩ := Val.sm_iff.1 hsm
    have hvl := valsD_length v.l
    have hfl' := fldsD_length v.f
    generalize hR : wtV most v = R
    rw [wtV_eq] at hR
    rw [Val.d_eq]
    refine lift_foliowrightlaw_weight.call rfl ?_
    simp (maxSteps := 2000000) only [go_sem, Nat.reduceEqDiff, Nat.reduceBEq, Nat.reduceLT, Nat.reduceLeDiff, Nat.reduceAdd, Nat.reduceSub, Nat.reduceMul, ↓reduceIte, reduceCtorEq, Nat.reduceBNe, Nat.reduceSubDiff, Int.reduceLT, Int.reduceLE, Int.reduceEq, Int.reduceNeg, Int.reduceAdd, Int.reduceMul, Int.reduceSub, Int.reduceToNat, L_foliowrightlaw_weight, R_foliowrightlaw_weight]
    generalize IntKind.i64.wrap (1 + (v.s.length : Int)) = n0 at hR ⊢
    refine run_loop (fun y : Nat × Int => ⟨[(1, .d (.int .i64 most)), (2, .ptr (.l 2) 0), (5, .d (.int .i64 y.2)), (6, .d (.int .i64 y.1))],
        [(2, .cells [.d (.int .i64 v.kind), .d (.int .i64 v.n), .d (.str v.s), .d (.list (valsD v.l)), .d (.list (fldsD v.f))])], []⟩) (fun y => y.1 ≤ v.l.length ∧ wtF most v.f (wtL most (v.l.drop y.1) y.2) = R) (fun y => v.l.length - y.1) (0, n0) ?_ ⟨by simp, hR⟩ ?_
    · refine Weak.mk ?_ ?_ ?_ <;> simp (maxSteps := 2000000) only [go_sem, Nat.reduceEqDiff, Nat.reduceBEq, Nat.reduceLT, Nat.reduceLeDiff, Nat.reduceAdd, Nat.reduceSub, Nat.reduceMul, ↓reduceIte, reduceCtorEq, Nat.reduceBNe, Nat.reduceSubDiff, Int.reduceLT, Int.reduceLE, Int.reduceEq, Int.reduceNeg, Int.reduceAdd, Int.reduceMul, Int.reduceSub, Int.reduceToNat, Sub, Int.natCast_add, Int.natCast_mul]
    · rintro ⟨i, n⟩ ⟨hi, hF⟩
      simp only at hi hF
      simp (maxSteps := 2000000) only [go_sem, Nat.reduceEqDiff, Nat.reduceBEq, Nat.reduceLT, Nat.reduceLeDiff, Nat.reduceAdd, Nat.reduceSub, Nat.reduceMul, ↓reduceIte, reduceCtorEq, Nat.reduceBNe, Nat.reduceSubDiff, Int.reduceLT, Int.reduceLE, Int.reduceEq, Int.reduceNeg, Int.reduceAdd, Int.reduceMul, Int.reduceSub, Int.reduceToNat, hvl]
      refine ⟨fun hlt => ⟨fun hle => ?_, fun hgt => ?_⟩, fun hge => ?_⟩
      · obtain ⟨x, hx⟩ := get_some (l := v.l) (i := i) (by omega)
        have hm := List.mem_of_getElem? hx
        have hc := ih x most (by have := size_l hm; omega) (hsl x hm)
        rw [Val.d_eq x] at hc
        rw [drop_at hx, wtL, if_pos hle] at hF
        simp (maxSteps := 2000000) (disch := omega) only [go_sem, Nat.reduceEqDiff, Nat.reduceBEq, Nat.reduceLT, Nat.reduceLeDiff, Nat.reduceAdd, Nat.reduceSub, Nat.reduceMul, ↓reduceIte, reduceCtorEq, Nat.reduceBNe, Nat.reduceSubDiff, Int.reduceLT, Int.reduceLE, Int.reduceEq, Int.reduceNeg, Int.reduceAdd, Int.reduceMul, Int.reduceSub, Int.reduceToNat, getI_nat, valsD_get, hx, Val.d_eq]
        first | refine CallG.of hc ?_ | refine CallD.of hc ?_
        simp (maxSteps := 2000000) (disch := omega) only [go_sem, Nat.reduceEqDiff, Nat.reduceBEq, Nat.reduceLT, Nat.reduceLeDiff, Nat.reduceAdd, Nat.reduceSub, Nat.reduceMul, ↓reduceIte, reduceCtorEq, Nat.reduceBNe, Nat.reduceSubDiff, Int.reduceLT, Int.reduceLE, Int.reduceEq, Int.reduceNeg, Int.reduceAdd, Int.reduceMul, Int.reduceSub, Int.reduceToNat]
        refine ⟨(i + 1, IntKind.i64.wrap (n + wtV most x)), ?_, ⟨by simp only; omega, hF⟩, by simp only; omega⟩
        refine Weak.mk ?_ ?_ ?_ <;> simp (maxSteps := 2000000) only [go_sem, Nat.reduceEqDiff, Nat.reduceBEq, Nat.reduceLT, Nat.reduceLeDiff, Nat.reduceAdd, Nat.reduceSub, Nat.reduceMul, ↓reduceIte, reduceCtorEq, Nat.reduceBNe, Nat.reduceSubDiff, Int.reduceLT, Int.reduceLE, Int.reduceEq, Int.reduceNeg, Int.reduceAdd, Int.reduceMul, Int.reduceSub, Int.reduceToNat, Sub, Int.natCast_add, Int.natCast_mul, hvl]
      · rw [wtL_stop hgt] at hF
        refine run_loop (fun y : Nat × Int => ⟨[(1, .d (.int .i64 most)), (2, .ptr (.l 2) 0), (5, .d (.int .i64 y.2)), (7, .d (.int .i64 y.1))],
            [(2, .cells [.d (.int .i64 v.kind), .d (.int .i64 v.n), .d (.str v.s), .d (.list (valsD v.l)), .d (.list (fldsD v.f))])], []⟩) (fun y => y.1 ≤ v.f.length ∧ wtF most (v.f.drop y.1) y.2 = R) (fun y => v.f.length - y.1) (0, n) ?_ ⟨by simp, hF⟩ ?_
        · refine Weak.mk ?_ ?_ ?_ <;> simp (maxSteps := 2000000) only [go_sem, Nat.reduceEqDiff, Nat.reduceBEq, Nat.reduceLT, Nat.reduceLeDiff, Nat.reduceAdd, Nat.reduceSub, Nat.reduceMul, ↓reduceIte, reduceCtorEq, Nat.reduceBNe, Nat.reduceSubDiff, Int.reduceLT, Int.reduceLE, Int.reduceEq, Int.reduceNeg, Int.reduceAdd, Int.reduceMul, Int.reduceSub, Int.reduceToNat, Sub, Int.natCast_add, Int.natCast_mul]
        · rintro ⟨j, n2⟩ ⟨hj, hG⟩
          simp only at hj hG
          simp (maxSteps := 2000000) only [go_sem, Nat.reduceEqDiff, Nat.reduceBEq, Nat.reduceLT, Nat.reduceLeDiff, Nat.reduceAdd, Nat.reduceSub, Nat.reduceMul, ↓reduceIte, reduceCtorEq, Nat.reduceBNe, Nat.reduceSubDiff, Int.reduceLT, Int.reduceLE, Int.reduceEq, Int.reduceNeg, Int.reduceAdd, Int.reduceMul, Int.reduceSub, Int.reduceToNat, hfl']
          refine ⟨fun hlt2 => ⟨fun hle2 => ?_, fun hgt2 => ?_⟩, fun hge2 => ?_⟩
          · obtain ⟨y, hy⟩ := get_some (l := v.f) (i := j) (by omega)
            have hm := List.mem_of_getElem? hy
            have hc := ih y.v most (by have := size_f hm; omega) (Fld.sm_iff.1 (hsf y hm)).2
            rw [Val.d_eq y.v] at hc
            rw [drop_at hy, wtF_cons, if_pos hle2] at hG
            simp (maxSteps := 2000000) (disch := omega) only [go_sem, Nat.reduceEqDiff, Nat.reduceBEq, Nat.reduceLT, Nat.reduceLeDiff, Nat.reduceAdd, Nat.reduceSub, Nat.reduceMul, ↓reduceIte, reduceCtorEq, Nat.reduceBNe, Nat.reduceSubDiff, Int.reduceLT, Int.reduceLE, Int.reduceEq, Int.reduceNeg, Int.reduceAdd, Int.reduceMul, Int.reduceSub, Int.reduceToNat, getI_nat, fldsD_get, hy, Fld.d_eq]
            refine CallD.of hc ?_
            simp (maxSteps := 2000000) (disch := omega) only [go_sem, Nat.reduceEqDiff, Nat.reduceBEq, Nat.reduceLT, Nat.reduceLeDiff, Nat.reduceAdd, Nat.reduceSub, Nat.reduceMul, ↓reduceIte, reduceCtorEq, Nat.reduceBNe, Nat.reduceSubDiff, Int.reduceLT, Int.reduceLE, Int.reduceEq, Int.reduceNeg, Int.reduceAdd, Int.reduceMul, Int.reduceSub, Int.reduceToNat, getI_nat, fldsD_get, hy, Fld.d_eq]
            refine ⟨(j + 1, IntKind.i64.wrap (IntKind.i64.wrap (n2 + (y.name.length : Int)) + wtV most y.v)), ?_, ⟨by simp only; omega, hG⟩, by simp only; omega⟩
            refine Weak.mk ?_ ?_ ?_ <;> simp (maxSteps := 2000000) only [go_sem, Nat.reduceEqDiff, Nat.reduceBEq, Nat.reduceLT, Nat.reduceLeDiff, Nat.reduceAdd, Nat.reduceSub, Nat.reduceMul, ↓reduceIte, reduceCtorEq, Nat.reduceBNe, Nat.reduceSubDiff, Int.reduceLT, Int.reduceLE, Int.reduceEq, Int.reduceNeg, Int.reduceAdd, Int.reduceMul, Int.reduceSub, Int.reduceToNat, Sub, Int.natCast_add, Int.natCast_mul]
          · rw [wtF_stop hgt2] at hG; rw [hG]
          · rw [List.drop_eq_nil_of_le (by omega), wtF] at hG; rw [hG]
      · rw [List.drop_eq_nil_of_le (by omega), wtL] at hF
        refine run_loop (fun y : Nat × Int => ⟨[(1, .d (.int .i64 most)), (2, .ptr (.l 2) 0), (5, .d (.int .i64 y.2)), (7, .d (.int .i64 y.1))],
            [(2, .cells [.d (.int .i64 v.kind), .d (.int .i64 v.n), .d (.str v.s), .d (.list (valsD v.l)), .d (.list (fldsD v.f))])], []⟩) (fun y => y.1 ≤ v.f.length ∧ wtF most (v.f.drop y.1) y.2 = R) (fun y => v.f.length - y.1) (0, n) ?_ ⟨by simp, hF⟩ ?_
        · refine Weak.mk ?_ ?_ ?_ <;> simp (maxSteps := 2000000) only [go_sem, Nat.reduceEqDiff, Nat.reduceBEq, Nat.reduceLT, Nat.reduceLeDiff, Nat.reduceAdd, Nat.reduceSub, Nat.reduceMul, ↓reduceIte, reduceCtorEq, Nat.reduceBNe, Nat.reduceSubDiff, Int.reduceLT, Int.reduceLE, Int.reduceEq, Int.reduceNeg, Int.reduceAdd, Int.reduceMul, Int.reduceSub, Int.reduceToNat, Sub, Int.natCast_add, Int.natCast_mul]
        · rintro ⟨j, n2⟩ ⟨hj, hG⟩
          simp only at hj hG
          simp (maxSteps := 2000000) only [go_sem, Nat.reduceEqDiff, Nat.reduceBEq, Nat.reduceLT, Nat.reduceLeDiff, Nat.reduceAdd, Nat.reduceSub, Nat.reduceMul, ↓reduceIte, reduceCtorEq, Nat.reduceBNe, Nat.reduceSubDiff, Int.reduceLT, Int.reduceLE, Int.reduceEq, Int.reduceNeg, Int.reduceAdd, Int.reduceMul, Int.reduceSub, Int.reduceToNat, hfl']
          refine ⟨fun hlt2 => ⟨fun hle2 => ?_, fun hgt2 => ?_⟩, fun hge2 => ?_⟩
          · obtain ⟨y, hy⟩ := get_some (l := v.f) (i := j) (by omega)
            have hm := List.mem_of_getElem? hy
            have hc := ih y.v most (by have := size_f hm; omega) (Fld.sm_iff.1 (hsf y hm)).2
            rw [Val.d_eq y.v] at hc
            rw [drop_at hy, wtF_cons, if_pos hle2] at hG
            simp (maxSteps := 2000000) (disch := omega) only [go_sem, Nat.reduceEqDiff, Nat.reduceBEq, Nat.reduceLT, Nat.reduceLeDiff, Nat.reduceAdd, Nat.reduceSub, Nat.reduceMul, ↓reduceIte, reduceCtorEq, Nat.reduceBNe, Nat.reduceSubDiff, Int.reduceLT, Int.reduceLE, Int.reduceEq, Int.reduceNeg, Int.reduceAdd, Int.reduceMul, Int.reduceSub, Int.reduceToNat, getI_nat, fldsD_get, hy, Fld.d_eq]
            refine CallD.of hc ?_
            simp (maxSteps := 2000000) (disch := omega) only [go_sem, Nat.reduceEqDiff, Nat.reduceBEq, Nat.reduceLT, Nat.reduceLeDiff, Nat.reduceAdd, Nat.reduceSub, Nat.reduceMul, ↓reduceIte, reduceCtorEq, Nat.reduceBNe, Nat.reduceSubDiff, Int.reduceLT, Int.reduceLE, Int.reduceEq, Int.reduceNeg, Int.reduceAdd, Int.reduceMul, Int.reduceSub, Int.reduceToNat, getI_nat, fldsD_get, hy, Fld.d_eq]
            refine ⟨(j + 1, IntKind.i64.wrap (IntKind.i64.wrap (n2 + (y.name.length : Int)) + wtV most y.v)), ?_, ⟨by simp only; omega, hG⟩, by simp only; omega⟩
            refine Weak.mk ?_ ?_ ?_ <;> simp (maxSteps := 2000000) only [go_sem, Nat.reduceEqDiff, Nat.reduceBEq, Nat.reduceLT, Nat.reduceLeDiff, Nat.reduceAdd, Nat.reduceSub, Nat.reduceMul, ↓reduceIte, reduceCtorEq, Nat.reduceBNe, Nat.reduceSubDiff, Int.reduceLT, Int.reduceLE, Int.reduceEq, Int.reduceNeg, Int.reduceAdd, Int.reduceMul, Int.reduceSub, Int.reduceToNat, Sub, Int.natCast_add, Int.natCast_mul]
          · rw [wtF_stop hgt2] at hG; rw [hG]
          · rw [List.drop_eq_nil_of_le (by omega), wtF] at hG; rw [hG]

/-- foliowrightlaw.LightValue -/
def L_foliowrightlaw_LightValue : LCode :=
  .seq (.reg [⟨some 1, .box (.t 0), none⟩, ⟨some 2, .asg (.k (.d (.bool false))), none⟩]) (.seq (.reg [⟨some 3, .val (.ld true 5 (.t 1)), none⟩, ⟨some 4, .call 104 [.t 3, .k (.d 
  (.int .i64 6000))], none⟩, ⟨some 5, .val (.bin .leq (.t 4) (.k (.d (.int .i64 6000)))), none⟩, ⟨some 2, .asg (.t 5), none⟩]) .ret)
def R_foliowrightlaw_LightValue : List LRes := [.tmp 2]
theorem lift_foliowrightlaw_LightValue : Lifts Tryd.prog 53 6 L_foliowrightlaw_LightValue R_foliowrightlaw_LightValue := ⟨_, _, Tryd.func53, rfl, by kernel_rfl, by kernel_rfl, rfl⟩

theorem light_call (v : Val) (hsm : v.sm 1048576 = true) : PCall Tryd.prog 53 [v.d] (fun r => r = .one (.bool (decide (wtV 6000 v ≤ 6000)))) := by
  have hc := weight_call _ v 6000 (Nat.le_refl _) hsm
  rw [Val.d_eq] at hc ⊢
  refine lift_foliowrightlaw_LightValue.call rfl ?_
  simp (maxSteps := 2000000) only [go_sem, Nat.reduceEqDiff, Nat.reduceBEq, Nat.reduceLT, Nat.reduceLeDiff, Nat.reduceAdd, Nat.reduceSub, Nat.reduceMul, ↓reduceIte, reduceCtorEq, Nat.reduceBNe, Nat.reduceSubDiff, Int.reduceLT, Int.reduceLE, Int.reduceEq, Int.reduceNeg, Int.reduceAdd, Int.reduceMul, Int.reduceSub, Int.reduceToNat, L_foliowrightlaw_LightValue, R_foliowrightlaw_LightValue]
  refine CallG.of hc ?_
  simp (maxSteps := 2000000) only [go_sem, Nat.reduceEqDiff, Nat.reduceBEq, Nat.reduceLT, Nat.reduceLeDiff, Nat.reduceAdd, Nat.reduceSub, Nat.reduceMul, ↓reduceIte, reduceCtorEq, Nat.reduceBNe, Nat.reduceSubDiff, Int.reduceLT, Int.reduceLE, Int.reduceEq, Int.reduceNeg, Int.reduceAdd, Int.reduceMul, Int.reduceSub, Int.reduceToNat]

def valV : Val := .mk 5 0 [] [.mk 4 0 [97, 32, 98] [] [], .mk 3 0 [40, 120] [] []] []
/-- foliowrightlaw.values -/
def L_foliowrightlaw_values : LCode :=
  .seq (.reg [⟨some 0, .asg (.k (.d (.bool false))), none⟩]) (.seq (.reg [⟨some 4, .val (.bld [(0, 1), (1, 1), (2, 1), (3, 1), (4, 1)] [.int .i64 0, .int .i64 0, .str [], .list [], 
  .list []] [(0, .k (.d (.int .i64 4))), (2, .k (.d (.str [97, 32, 98])))]), none⟩, ⟨some 5, .val (.bld [(0, 1), (1, 1), (2, 1), (3, 1), (4, 1)] [.int .i64 0, .int .i64 0, .str [], 
  .list [], .list []] [(0, .k (.d (.int .i64 3))), (2, .k (.d (.str [40, 120])))]), none⟩, ⟨some 6, .bsl 92 5 [.t 4, .t 5], none⟩, ⟨some 7, .val (.bld [(0, 1), (1, 1), (2, 1), (3, 
  1), (4, 1)] [.int .i64 0, .int .i64 0, .str [], .list [], .list []] [(0, .k (.d (.int .i64 5))), (3, .t 6)]), none⟩, ⟨some 8, .call 55 [.t 7], none⟩, ⟨some 3, .val (.cp (.t 8)), 
  none⟩, ⟨some 9, .val (.ext 0 (.t 3)), none⟩, ⟨some 10, .val (.ext 1 (.t 3)), none⟩, ⟨some 1, .asg (.t 9), none⟩, ⟨some 2, .asg (.t 10), none⟩]) (.seq (.reg [⟨some 11, .val (.cp 
  (.t 2)), none⟩, ⟨some 12, .call 19 [.t 11, .k (.d (.int .i64 0))], none⟩, ⟨some 13, .val (.cp (.t 12)), none⟩, ⟨some 14, .val (.cp (.t 1)), some (13, true)⟩, ⟨some 15, .val (.bin 
  .eql (.t 14) (.k (.d (.str [91, 47, 97, 35, 50, 48, 98, 32, 40, 92, 40, 120, 41, 93])))), some (13, true)⟩, ⟨some 16, .val (.pick (.t 13) (.t 15) (.k (.d (.bool false)))), none⟩, 
  ⟨some 0, .asg (.t 16), none⟩]) .ret))
def R_foliowrightlaw_values : List LRes := [.tmp 0]
theorem lift_foliowrightlaw_values : Lifts Tryd.prog 52 17 L_foliowrightlaw_values R_foliowrightlaw_values := ⟨_, _, Tryd.func52, rfl, by kernel_rfl, by kernel_rfl, rfl⟩

theorem values_call : PCall Tryd.prog 52 [] (fun r => r = .one (.bool true)) := by
  refine lift_foliowrightlaw_values.call rfl ?_
  simp (maxSteps := 2000000) only [go_sem, Nat.reduceEqDiff, Nat.reduceBEq, Nat.reduceLT, Nat.reduceLeDiff, Nat.reduceAdd, Nat.reduceSub, Nat.reduceMul, ↓reduceIte, reduceCtorEq, Nat.reduceBNe, Nat.reduceSubDiff, Int.reduceLT, Int.reduceLE, Int.reduceEq, Int.reduceNeg, Int.reduceAdd, Int.reduceMul, Int.reduceSub, Int.reduceToNat, L_foliowrightlaw_values, R_foliowrightlaw_values]
  have hc := textV_call valV (by kernel_rfl)
  have hd : valV.d = .agg [.int .i64 5, .int .i64 0, .str [], .list [.agg [.int .i64 4, .int .i64 0, .str [97, 32, 98], .list [], .list []], .agg [.int .i64 3, .int .i64 0, .str [40, 120], .list [], .list []]], .list []] := rfl
  have hr : textR valV = .tup [.str [91, 47, 97, 35, 50, 48, 98, 32, 40, 92, 40, 120, 41, 93], .nil] := by kernel_rfl
  rw [hd, hr] at hc
  refine CallG.of hc ?_
  simp (maxSteps := 2000000) only [go_sem, Nat.reduceEqDiff, Nat.reduceBEq, Nat.reduceLT, Nat.reduceLeDiff, Nat.reduceAdd, Nat.reduceSub, Nat.reduceMul, ↓reduceIte, reduceCtorEq, Nat.reduceBNe, Nat.reduceSubDiff, Int.reduceLT, Int.reduceLE, Int.reduceEq, Int.reduceNeg, Int.reduceAdd, Int.reduceMul, Int.reduceSub, Int.reduceToNat]
  refine CallG.of (same_law 0 0) ?_
  simp (maxSteps := 2000000) only [go_sem, Nat.reduceEqDiff, Nat.reduceBEq, Nat.reduceLT, Nat.reduceLeDiff, Nat.reduceAdd, Nat.reduceSub, Nat.reduceMul, ↓reduceIte, reduceCtorEq, Nat.reduceBNe, Nat.reduceSubDiff, Int.reduceLT, Int.reduceLE, Int.reduceEq, Int.reduceNeg, Int.reduceAdd, Int.reduceMul, Int.reduceSub, Int.reduceToNat]
end Go.Av.Tryd
